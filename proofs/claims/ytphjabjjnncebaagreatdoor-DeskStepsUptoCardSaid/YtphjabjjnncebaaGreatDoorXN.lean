/- Parts of the proof: an abstract machine for Go functions, and what functions of the program give back (Ra6, Ra7, Ra8, Rd1, Pu1, Pu2, Bf1, Pu3). No condition. -/
import Derived.Test.YtphjabjjnncebaaGreatDoorXM
import Derived.Test.YtphjabjjnncebaaGreatDoorXJ
import Derived.Test.YtphjabjjnncebaaGreatDoorXG
set_option maxRecDepth 100000
set_option linter.all false
namespace Go.Am
open Go Go.Proofs Go.RowKit Go.Proofs.Tryz
def I4(s:H6)(e:Ev):Nat:=C3 s.things e.type e.id
def A31(s:H6)(e:Ev):Bool:=F2 s.things e.type e.id
def A3n(s:H6)(e:Ev):Option Fd:=if e.field<0 then none else (D5 s.types e.type)[e.field.toNat]?
def B1p(s:H6)(e:Ev):Option Cl:=match s.things[I4 s e]? with
 | some t=>t.cells[e.field.toNat]?
 | none=>none
def chE(s:H6)(e:Ev):Int:=match A3n s e,B1p s e with
 | some f,some c=>if L9 e.kind f=true then X2 s f c e else 7
 | _,_=>5
def doE(s:H6)(e:Ev):Int :=
 if e.kind=1 then (if A31 s e=true then 6 else if s.things.length=12 then 2 else 0)
 else if A31 s e=false then 5 else if e.kind=2 then (if T8 (W3 s.types e) s.types s.things=false then 4 else 0) else chE s e
def A14(s:H6)(e:Ev):Int:=if n9 s.types e≠0 then n9 s.types e else doE s e
def A6g(s:H6)(i k:Nat)(c:Cl):H6:=⟨s.types,match s.things[i]? with
 | some t=>s.things.set i ⟨t.type,t.id,t.cells.set k c⟩
 | none=>s.things⟩
def A1i(s:H6)(e:Ev):H6 :=
 if e.kind=1 then ⟨s.types,s.things.take (I4 s e)++⟨e.type,e.id,List.replicate (D5 s.types e.type).length cl0⟩::s.things.drop (I4 s e)⟩
 else if e.kind=2 then ⟨s.types,s.things.take (I4 s e)++s.things.drop (I4 s e+1)⟩
 else match A3n s e,B1p s e with
  | some f,some c=>A6g s (I4 s e) e.field.toNat (x8 f c e)
  | _,_=>s
structure StR(s:H6):Prop where
 sch:A7F s.types
 len:s.things.length<=12
 tg:∀t∈s.things,A4w s t
def A3o{α:Type}{l:List α}{i:Nat}{x:α}(h:l[i]?=some x):l=l.take i++x::l.drop (i+1):=by
 obtain⟨h1,h2⟩:=ze.1 h;conv=>lhs; rw[←yu i l,xg h1,h2]
def A0G{l:List Ty}{e:Ev}(h:n9 l e=0):W7 e=0/\0<=e.type/\e.type<=(l.length:Int) - 1/\1<=e.id/\e.id<=999/\1<=e.kind/\e.kind<=6:=by
 unfold n9 at h;split at h
 ·rename_i h1; exact (h1 h).elim
 ·rename_i h1;split at h
  ·omega
  ·split at h
   ·omega
   ·rename_i h2 h3;have h1:W7 e=0:=o_;have hk:1<=e.kind/\e.kind<=6:=by
     unfold W7 at h1;split at h1
     ·omega
     ·rename_i h4; omega
    exact⟨h1,o_,o_,o_,o_,hk.1,hk.2⟩
def B70(l:List Tg)(a b:Int):C3 l a b<=l.length:=(B6r _ _ _ (rm _)).2
def B1q{l:List Tg}{a b:Int}(h:F2 l a b=true):C3 l a b<l.length:=by unfold F2 at h; simp at h; exact h.1
section
variable {l:List Ty} {S:List I0} {T:Nat} {e:Ev} {id:Nat} (hnd:(nmT T S).Nodup) (hfr:∀z∈nmT T S,z<id\/id+1024<=z) (hok:∀o∈S,o.Ok) (hR:StR (A6 l S))
include hnd hfr hok hR
theorem A5b:l.length<=5/\S.length<=12/\(∀t∈l,t.fields.length<=6)/\∀t∈S.map I0.t,0<=t.type/\t.type.toNat<l.length/\t.cells.length=(D5 l t.type).length/\t.cells.length<=1000000/\∀c∈t.cells,c.ids.length<=6:=by
 refine⟨hR.sch.len,by have:=hR.len; simpa [A6] using this,hR.sch.fields,λt ht=>?_⟩;have h:=hR.tg t ht;have h6:=h.cells6 hR.sch;refine⟨h.ty0,h.ty1,h.len,o_,λc hc=>?_⟩;obtain⟨k,hk⟩:=yi.1 hc;obtain⟨f,_,hco⟩:=h.cellOk hk;exact hco.i1
theorem B0h(h1 : -1<=e.type/\e.type<=1000)(h2:1<=e.id/\e.id<=999)(hb:A31 (A6 l S) e=true){o:I0}(ho:S[I4 (A6 l S) e]?=some o){ty:Ty}(hty:l[e.type.toNat]?=some ty):o.t.type=e.type/\o.t.id=e.id/\o.t.cells.length=ty.fields.length:=by
 have ht:(A6 l S).things[I4 (A6 l S) e]?=some o.t:=by simp only[A6] at ho ⊢; rw[yj,ho]; rfl
 have hg:=hR.tg o.t (zg ht);have h5:=hR.sch.len;have hz:J7 (A6 l S).things e.type e.id (I4 (A6 l S) e)=0:=by unfold A31 F2 at hb; simp at hb; exact hb.2
 unfold J7 at hz;rw[ht] at hz;have hz:A0Z o.t.type o.t.id e.type e.id=0:=hz;have g1:=hg.ty0;have g2:=hg.ty1;have g3:=hg.id1;have g4:=hg.id2;obtain⟨e1,e2⟩:=(A5a o_ o_ o_ (by unfold I64; omega)).1 hz;refine⟨e1,e2,?_⟩;have:=hg.len;rw[e1] at this;have hfl:D5 (A6 l S).types e.type=ty.fields:=by simp[D5,A6,hty]
 rw[this,hfl]
omit hfr hok hR in
theorem C1M{o:I0}(ho:o∈S){I:Nat}{b:Bx}(h:(I,b)∈A0c o.t.cells o.is):o.c≠I:=λe=>by
 rw[nmT,xd] at hnd;obtain⟨i,hi⟩:=yi.1 ho;have hs:=A3o hi;have h2:=hnd.2;rw[hs,A1t,A5Y,wa,wa] at h2;have h3:=h2.2.1.1;rw[nmO,I0.bxs,yg,xd] at h3;exact h3.1 (e▸zw.2 ⟨_,h,rfl⟩)
theorem B8x(h:A14 (A6 l S) e≠0):A2 prog 126 [.agg [.sl (l.map I9),.bsl T 0 S.length],S1 e] (trB T S) id (.tup [eS0,.int .i64 (A14 (A6 l S) e)]) []:=by
 obtain⟨q1,q2,q3,q4⟩:=A5b hnd hfr hok hR;have hE0:A14 (A6 l S) e=if n9 l e≠0 then n9 l e else doE (A6 l S) e:=rfl
 rw[hE0] at h ⊢;by_cases h0:n9 l e≠0
 ·rw[zj h0];exact (C1B l e T S.length id o_ h0).more λq hq=>by cases hq
 rw[zf h0] at h ⊢;obtain⟨hf0,a1,a2,a3,a4,a5,a6⟩:=A0G (by omega:n9 l e=0);have hty:e.type.toNat<l.length:=by omega
 obtain⟨ty,htya⟩:∃ty,l[e.type.toNat]?=some ty:=⟨_,zc hty⟩;have hfl:D5 l e.type=ty.fields:=by simp[D5,htya]
 have hf6:ty.fields.length<=6:=q3 ty (zg htya);have hds:doE (A6 l S) e=doE (A6 l S) e:=rfl;have hdo:∀D id,(∀q∈trB T S,q.1≠D)->A2 prog 195 [.ptr D 0 0] ((D,S5 l (.bsl T 0 S.length) e 0)::trB T S) id (.int .i64 (doE (A6 l S) e)) [(D,some (S5 l (.bsl T 0 S.length) e (I4 (A6 l S) e)))]:=λD id hD=>by
  have d1:D≠T:=λe=>hD _ (za ..) e.symm;have dr:∀q∈J2 S,q.1≠D:=λq hq=>hD q (zb _ hq);have hnd':=hnd;rw[nmT,xd] at hnd';have dT:∀q∈J2 S,q.1≠T:=λq hq e=>hnd'.1 (e▸A6e hq);have hm2:∀q∈[(D,S5 l (.bsl T 0 S.length) e 0),(T,P9 S)],q∈(D,S5 l (.bsl T 0 S.length) e 0)::trB T S:=λq hq=>by
   simp only[zi,yp,or_false] at hq;rcases hq with rfl|rfl
   ·exact za ..
   ·exact zb _ (za ..)
  have hll:(A6 l S).things.length=S.length:=xf ..;by_cases k1:e.kind=1
  ·have hE:doE (A6 l S) e=if A31 (A6 l S) e=true then 6 else if S.length=12 then 2 else 0:=(by unfold doE; rw[zj k1,hll]);rw[hE] at h ⊢;refine (C18 l S e 0 D T id _ ?_ o_ d1).more hm2;by_cases b:A31 (A6 l S) e=true
   ·exact .inl ⟨k1,b,zj b⟩
   ·rw[zf b] at h ⊢;by_cases b2:S.length=12
    ·exact .inr (.inl ⟨k1,eq_false_of_ne_true b,b2,zj b2⟩)
    ·rw[zf b2] at h; exact (h rfl).elim
  ·by_cases b:A31 (A6 l S) e=false
   ·have hE:doE (A6 l S) e=5:=(by unfold doE; rw[zf k1,zj b]);rw[hE];exact (C18 l S e 0 D T id _ (.inr (.inr ⟨k1,b,rfl⟩)) o_ d1).more hm2
   ·have b':A31 (A6 l S) e=true:=(v_ b);by_cases k2:e.kind=2
    ·have hE:doE (A6 l S) e=if T8 (W3 l e) l (S.map I0.t)=false then 4 else 0:=(by unfold doE; rw[zf k1,zf b,zj k2]; rfl);rw[hE] at h ⊢;by_cases m:T8 (W3 l e) l (S.map I0.t)=false
     ·rw[zj m];exact C1A l S e 0 D T id k2 b' hok o_ o_ d1 hnd'.2 dr dT q4 m
     ·rw[zf m] at h; exact (h rfl).elim
    ·have hE:doE (A6 l S) e=chE (A6 l S) e:=(by unfold doE; rw[zf k1,zf b,zf k2]);rw[hE] at h ⊢;have hlt:=B1q b';obtain⟨o,ho⟩:∃o,S[I4 (A6 l S) e]?=some o:=⟨_,zc (hll▸hlt)⟩;have hoS:=zg ho;have hot:=q4 o.t (zw.2 ⟨o,hoS,rfl⟩);have hlen:=(B0h hnd hfr hok hR o_ o_ b' ho htya).2.2;have hbx:∀q∈o.bxs,q∈J2 S:=λq hq=>xz.2 ⟨o,hoS,hq⟩;have dc:o.c≠D/\o.c≠T:=⟨dr _ (hbx _ (za ..)),dT _ (hbx _ (za ..))⟩;have his:=(hok o hoS).len;have hm3:∀q∈[(D,S5 l (.bsl T 0 S.length) e 0),(T,P9 S),(o.c,cBn o)],q∈(D,S5 l (.bsl T 0 S.length) e 0)::trB T S:=λq hq=>by
      simp only[zi,yp,or_false] at hq;rcases hq with rfl|rfl|rfl
      ·exact za ..
      ·exact zb _ (za ..)
      ·exact zb _ (zb _ (hbx _ (za ..)))
     have k3:3<=e.kind:=o_;have fin5:A3n (A6 l S) e=none->A2 prog 195 [.ptr D 0 0] ((D,S5 l (.bsl T 0 S.length) e 0)::trB T S) id (.int .i64 (chE (A6 l S) e)) [(D,some (S5 l (.bsl T 0 S.length) e (I4 (A6 l S) e)))]:=λhfd=>by
      have hw:chE (A6 l S) e=5:=(by unfold chE; rw[hfd]);rw[hw];have hfr:x7 ty e o.c = .tup [.agg [.str [],.int .i64 0,.str []],.nilp,.int .i64 5]:=by
       unfold A3n at hfd;unfold x7;by_cases h5:e.field<0
       ·rw[zj h5]
       ·rw[zf h5] at hfd ⊢;have hfd:(D5 l e.type)[e.field.toNat]?=none:=hfd;rw[hfl] at hfd;rw[hfd]
      exact (B1o l S e 0 D T o.c id (List.zipWith P6 o.t.cells o.is) 5 k3 b' o_ d1 dc.1.symm dc.2.symm λid=>A8v l S e (I4 (A6 l S) e) o ty D T id _ 5 o_ ⟨_,_,_,rfl⟩ hfr htya a1 ho hlen his o_ d1 dc.1.symm dc.2.symm).more hm3
     cases hfd:A3n (A6 l S) e with
     | none=>exact fin5 hfd
     | some f =>
      clear fin5;have hfd':=hfd;unfold A3n at hfd;by_cases h5:e.field<0
      ·rw[zj h5] at hfd; cases hfd
      rw[zf h5] at hfd;have hfd:(D5 l e.type)[e.field.toNat]?=some f:=hfd;rw[hfl] at hfd;have hkl:e.field.toNat<ty.fields.length:=(ze.1 hfd).1;obtain⟨cl,hcl⟩:∃cl,o.t.cells[e.field.toNat]?=some cl:=⟨_,zc o_⟩;obtain⟨io,hio⟩:∃io,o.is[e.field.toNat]?=some io:=⟨_,zc o_⟩;have hclo:B1p (A6 l S) e=some cl:=by
       unfold B1p;have:(A6 l S).things[I4 (A6 l S) e]?=some o.t:=by simp only[A6] at ho ⊢; rw[yj,ho]; rfl
       rw[this];exact hcl
      have hchE:chE (A6 l S) e=if L9 e.kind f=true then X2 (A6 l S) f cl e else 7:=(by unfold chE; rw[hfd',hclo]);rw[hchE] at h ⊢;by_cases hkf:L9 e.kind f=true
      ·rw[zj hkf] at h ⊢;have hc8:cl.ids.length<=1000:=(by have:=hot.2.2.2.2 cl (zg hcl); omega);cases io with
       | none =>
        have hn:=(hok o hoS).nil _ _ hcl hio;have hW:∀id,R8 (A6 l S) f cl e o.c e.field.toNat id (List.zipWith P6 o.t.cells o.is) none=[]:=λid=>by unfold R8; rw[zj h]
        refine (B1o l S e 0 D T o.c id (List.zipWith P6 o.t.cells o.is) _ k3 b' o_ d1 dc.1.symm dc.2.symm λid=>?_).more hm3;have:=A3l l S e (I4 (A6 l S) e) o ty f cl D T id k3 a6 o_ hfd hkf hcl hio htya a1 ho hlen his hn o_ o_ o_ hc8 d1 dc.1.symm dc.2.symm;rw[hW] at this;exact this
       | some I =>
        have hIm:(I,iBx cl)∈o.bxs:=zb _ (A5X _ hcl hio _ (za ..));have hIr:=hbx _ hIm;have hW:∀id,R8 (A6 l S) f cl e o.c e.field.toNat id (List.zipWith P6 o.t.cells o.is) (some I)=[]:=λid=>by unfold R8; rw[zj h]
        have dI:D≠I/\T≠I/\o.c≠I:=⟨λe=>dr _ hIr e.symm,λe=>dT _ hIr e.symm,C1M hnd hoS (A5X _ hcl hio _ (za ..))⟩;refine (C1J l S e 0 D T o.c id (List.zipWith P6 o.t.cells o.is) _ I cl.ids dI.1 dI.2.1 dI.2.2 k3 b' o_ d1 dc.1.symm dc.2.symm λid=>?_).more λq hq=>?_
        ·have:=A1s l S e (I4 (A6 l S) e) o ty f cl I D T id k3 a6 o_ hfd hkf hcl hio htya a1 ho hlen his o_ o_ o_ hc8 d1 dc.1.symm dc.2.symm dI.1 dI.2.1 dI.2.2;rw[hW] at this;exact this
        ·simp only[zi,yp,or_false] at hq;rcases hq with rfl|rfl|rfl|rfl
         ·exact za ..
         ·exact zb _ (za ..)
         ·exact zb _ (zb _ (hbx _ (za ..)))
         ·exact zb _ (zb _ hIr)
      ·rw[zf hkf];have hfr:x7 ty e o.c = .tup [U8 f,.nilp,.int .i64 7]:=(by unfold x7; rw[zf h5,hfd]; simp only; rw[zf hkf]);exact (B1o l S e 0 D T o.c id (List.zipWith P6 o.t.cells o.is) 7 k3 b' o_ d1 dc.1.symm dc.2.symm λid=>A8v l S e (I4 (A6 l S) e) o ty D T id _ 7 o_ ⟨_,_,_,rfl⟩ hfr htya a1 ho hlen his o_ d1 dc.1.symm dc.2.symm).more hm3
 exact C1G l S e T id _ _ (trB T S) (by rw[B8m]; exact hnd) h o_ hf0 a1 a2 a3 a4 hdo
end
structure B42(l:List Ty)(S:List I0)(T:Nat)(e:Ev)(id:Nat)(T':Nat)(S':List I0)(wr:List (Nat×Option Bx)):Prop where
 fn:A2 Tryz.prog 126 [.agg [.sl (l.map I9),.bsl T 0 S.length],S1 e] (trB T S) id (.tup [.agg [.sl (l.map I9),.bsl T' 0 S'.length],.int .i64 0]) wr
 tree:A6f id T S wr T' S'
 st:A6 l S'=A1i (A6 l S) e
section
variable {l:List Ty} {S:List I0} {T:Nat} {e:Ev} {id:Nat} (hnd:(nmT T S).Nodup) (hfr:∀z∈nmT T S,z<id\/id+1024<=z) (hok:∀o∈S,o.Ok) (hR:StR (A6 l S))
include hnd hfr hok hR
omit hnd hfr hok hR in
theorem A32(h:A14 (A6 l S) e=0):n9 l e=0/\doE (A6 l S) e=0:=by
 have hE0:A14 (A6 l S) e=if n9 l e≠0 then n9 l e else doE (A6 l S) e:=rfl
 rw[hE0] at h;by_cases h0:n9 l e=0
 ·rw[zf (t_ h0)] at h; exact⟨h0,h⟩
 ·rw[zj h0] at h; exact (h0 h).elim
theorem C1N(k1:e.kind=1)(h:A14 (A6 l S) e=0):∃T' S' wr,B42 l S T e id T' S' wr:=by
 obtain⟨q1,q2,q3,q4⟩:=A5b hnd hfr hok hR;obtain⟨h0,h⟩:=A32 h;obtain⟨hf0,a1,a2,a3,a4,a5,a6⟩:=A0G h0;have hty:e.type.toNat<l.length:=by omega
 obtain⟨ty,htya⟩:∃ty,l[e.type.toNat]?=some ty:=⟨_,zc hty⟩;have hfl:D5 l e.type=ty.fields:=by simp[D5,htya]
 have hf6:ty.fields.length<=6:=q3 ty (zg htya);have hll:(A6 l S).things.length=S.length:=xf ..;have hE:doE (A6 l S) e=if A31 (A6 l S) e=true then 6 else if S.length=12 then 2 else 0:=by unfold doE; rw[zj k1,hll]
 rw[hE] at h;by_cases b:A31 (A6 l S) e=true
 ·rw[zj b] at h; omega
 rw[zf b] at h;by_cases b2:S.length=12
 ·rw[zj b2] at h; omega
 have hi:I4 (A6 l S) e<=S.length:=hll▸B70 ..;have hii:C3 (S.map I0.t) e.type e.id=I4 (A6 l S) e:=rfl;have hbf:F2 (S.map I0.t) e.type e.id=false:=eq_false_of_ne_true b;have ft:=B8o (id:=id) (T:=T) (A:=S.take (I4 (A6 l S) e)) (B:=S.drop (I4 (A6 l S) e)) e ty.fields.length (by rw[yu]; exact hnd) (by rw[yu]; exact hfr) (by rw[yu]; exact hok);rw[yu] at ft;have hlen:(S.take (I4 (A6 l S) e)++A5Z e ty.fields.length id::S.drop (I4 (A6 l S) e)).length=S.length+1:=by simp; omega
 have hxs:P9 (S.take (I4 (A6 l S) e)++A5Z e ty.fields.length id::S.drop (I4 (A6 l S) e))=⟨(S.map W9).take (I4 (A6 l S) e)++.agg [.int .i64 e.type,.int .i64 e.id,.bsl (id+1) 0 ty.fields.length]::(S.map W9).drop (I4 (A6 l S) e),zT,false,false⟩:=by
  simp[P9,yt,rp,W9,A5Z]
 refine⟨id,_,_,⟨?_,ft,?_⟩⟩
 ·rw[hlen,hxs];refine (C1C l S e T id (I4 (A6 l S) e) ty.fields.length (I4 (A6 l S) e) o_ hf0 a1 a2 a3 a4 λD id hD=>?_).more λq hq=>by
   simp only[zi,yp,or_false] at hq;subst hq;exact za ..
  have:=C4F l S e 0 ty D T id k1 hbf b2 htya a1 o_ o_ (λe=>hD _ (za ..) e.symm);rw[hii] at this;exact this
 ·unfold A1i;rw[zj k1];simp[A6,A5Z,yt,rp,hfl]
theorem C1O(k2:e.kind=2)(h:A14 (A6 l S) e=0):∃T' S' wr,B42 l S T e id T' S' wr:=by
 obtain⟨q1,q2,q3,q4⟩:=A5b hnd hfr hok hR;obtain⟨h0,h⟩:=A32 h;obtain⟨hf0,a1,a2,a3,a4,a5,a6⟩:=A0G h0;have hll:(A6 l S).things.length=S.length:=xf ..;have k1:e.kind≠1:=by omega
 by_cases b:A31 (A6 l S) e=false
 ·have hE:doE (A6 l S) e=5:=by unfold doE; rw[zf k1,zj b]
  omega
 have b':A31 (A6 l S) e=true:=by simpa using b
 have hE:doE (A6 l S) e=if T8 (W3 l e) l (S.map I0.t)=false then 4 else 0:=by unfold doE; rw[zf k1,zf b,zj k2]; rfl
 rw[hE] at h;by_cases m:T8 (W3 l e) l (S.map I0.t)=false
 ·rw[zj m] at h; omega
 have m':T8 (W3 l e) l (S.map I0.t)=true:=by simpa using m
 have hlt:I4 (A6 l S) e<S.length:=hll▸B1q b';obtain⟨o,ho⟩:∃o,S[I4 (A6 l S) e]?=some o:=⟨_,zc hlt⟩;have hs:=A3o ho;have hii:C3 (S.map I0.t) e.type e.id=I4 (A6 l S) e:=rfl;have hnd':=hnd;rw[nmT,xd] at hnd';have dT:∀q∈J2 S,q.1≠T:=λq hq e=>hnd'.1 (e▸A6e hq);have ft:=B8p (id:=id) (T:=T) (A:=S.take (I4 (A6 l S) e)) (B:=S.drop (I4 (A6 l S) e+1)) (o:=o) (by rw[←hs]; exact hnd) (by rw[←hs]; exact hfr) (by rw[←hs]; exact hok);rw[←hs] at ft;have hlen:(S.take (I4 (A6 l S) e)++S.drop (I4 (A6 l S) e+1)).length=S.length - 1:=by simp; omega
 have hxs:P9 (S.take (I4 (A6 l S) e)++S.drop (I4 (A6 l S) e+1))=⟨(S.map W9).take (I4 (A6 l S) e)++(S.map W9).drop (I4 (A6 l S) e+1),zT,false,false⟩:=by
  simp[P9,yt,rp]
 refine⟨id,_,_,⟨?_,ft,?_⟩⟩
 ·rw[hlen,hxs];refine C1H l S e T id (I4 (A6 l S) e) (I4 (A6 l S) e) (J2 S) hnd'.2 dT o_ hf0 a1 a2 a3 a4 λD id hD=>?_;have:=C4G l S e 0 D T id k2 b' hok o_ o_ (λe=>hD _ (za ..) e.symm) hnd'.2 (λq hq=>hD q (zb _ hq)) dT q4 m';rw[hii] at this;exact this
 ·unfold A1i;rw[zf k1,zj k2];simp[A6,yt,rp]
end
def B71(c:Cl)(i:Option Nat):∀(cs:List Cl) (is:List (Option Nat)) (k:Nat),List.zipWith P6 (cs.set k c) (is.set k i)=(List.zipWith P6 cs is).set k (P6 c i)
 | [],_,_=>by simp
 | _::_,[],_=>by simp
 | _::cs,_::is,0=>by simp
 | _::cs,_::is,k+1=>by simp[B71 c i cs is k]
def C1P{α:Type}{l:List α}{k:Nat}{x:α}(h:l[k]?=some x):l.set k x=l:=by
 obtain⟨h1,rfl⟩:=ze.1 h;exact List.set_getElem_self h1
def B0i{c:Cl}{i:Option Nat}:∀{cs:List Cl} {is:List (Option Nat)} {k:Nat},cs[k]?=some c->is[k]?=some i->∃X Y,A0c cs is=X++(idB c i++Y)/\∀c' i',A0c (cs.set k c') (is.set k i')=X++(idB c' i'++Y)
 | [],_,_,h,_=>by simp at h
 | _::_,[],_,_,h=>by simp at h
 | c0::cs,i0::is,0,h1,h2=>by
  simp only[yn,zd] at h1 h2;subst h1 h2;exact⟨[],A0c cs is,rfl,λ_ _=>rfl⟩
 | c0::cs,i0::is,k+1,h1,h2=>by
  simp only[xt] at h1 h2;obtain⟨X,Y,e1,e2⟩:=B0i h1 h2;refine⟨idB c0 i0++X,Y,?_,λc' i'=>?_⟩
  ·rw[A0c,e1,ym]
  ·rw[List.set_cons_succ,List.set_cons_succ,A0c,e2,ym]
def A6h(o:I0)(k:Nat)(c:Cl)(io:Option Nat):I0:=⟨⟨o.t.type,o.t.id,o.t.cells.set k c⟩,o.c,o.is.set k io⟩
def B72{o:I0}{k:Nat}{c:Cl}{io:Option Nat}(h:o.Ok)(hn:io=none->c.ids=[]):(A6h o k c io).Ok:=by
 refine⟨by simpa [A6h] using h.len,λj d h1 h2=>?_⟩;simp only[A6h] at h1 h2;rw[uq] at h1 h2;by_cases hj:k=j
 ·subst hj;rw[zj rfl] at h1 h2;split at h1
  ·split at h2
   ·injection h1 with h1; injection h2 with h2; subst h1; exact hn h2
   ·cases h2
  ·cases h1
 ·rw[zf hj] at h1 h2;exact h.nil _ _ h1 h2
def B43(o:I0)(k:Nat)(c:Cl)(io:Option Nat):W9 (A6h o k c io)=W9 o:=by simp[W9,A6h]
def B44(o:I0)(k:Nat)(c:Cl)(io:Option Nat):cBn (A6h o k c io)=⟨(List.zipWith P6 o.t.cells o.is).set k (P6 c io),zC,false,false⟩:=by
 simp only[cBn,A6h,B71]
section
variable {l:List Ty} {S:List I0} {T:Nat} {e:Ev} {id:Nat} (hnd:(nmT T S).Nodup) (hfr:∀z∈nmT T S,z<id\/id+1024<=z) (hok:∀o∈S,o.Ok) (hR:StR (A6 l S))
theorem B73{i k:Nat}{o:I0}(ho:S[i]?=some o){c:Cl}{io:Option Nat}{wr:List (Nat×Option Bx)}(hs:A1i (A6 l S) e=A6g (A6 l S) i k c)
  (hf:A2 prog 126 [.agg [.sl (l.map I9),.bsl T 0 S.length],S1 e] (trB T S) id (.tup [.agg [.sl (l.map I9),.bsl T 0 S.length],.int .i64 0]) wr)
  (ht:A6f id T (S.take i++o::S.drop (i+1)) wr T (S.take i++A6h o k c io::S.drop (i+1))):∃T' S' wr,B42 l S T e id T' S' wr:=by
 rw[←A3o ho] at ht;have hi:=(ze.1 ho).1;have hset:S.set i (A6h o k c io)=S.take i++A6h o k c io::S.drop (i+1):=by rw[List.set_eq_take_append_cons_drop,zj hi]
 rw[←hset] at ht;refine⟨T,_,wr,⟨?_,ht,?_⟩⟩
 ·rw[List.length_set]; exact hf
 ·rw[hs];unfold A6g;have:(A6 l S).things[i]?=some o.t:=by simp only[A6]; rw[yj,ho]; rfl
  rw[this];simp only[A6,sj];rfl
include hnd hfr hok hR
theorem C4L(k3:3<=e.kind)(h:A14 (A6 l S) e=0):∃T' S' wr,B42 l S T e id T' S' wr:=by
 obtain⟨q1,q2,q3,q4⟩:=A5b hnd hfr hok hR;obtain⟨h0,h⟩:=A32 h;obtain⟨hf0,a1,a2,a3,a4,a5,a6⟩:=A0G h0;have hty:e.type.toNat<l.length:=by omega
 obtain⟨ty,htya⟩:∃ty,l[e.type.toNat]?=some ty:=⟨_,zc hty⟩;have hfl:D5 l e.type=ty.fields:=by simp[D5,htya]
 have hf6:ty.fields.length<=6:=q3 ty (zg htya);have hll:(A6 l S).things.length=S.length:=xf ..;have k1:e.kind≠1:=by omega
 have k2:e.kind≠2:=by omega
 by_cases b:A31 (A6 l S) e=false
 ·have hE:doE (A6 l S) e=5:=by unfold doE; rw[zf k1,zj b]
  omega
 have b':A31 (A6 l S) e=true:=by simpa using b
 have hE:doE (A6 l S) e=chE (A6 l S) e:=by unfold doE; rw[zf k1,zf b,zf k2]
 rw[hE] at h;have hlt:I4 (A6 l S) e<S.length:=hll▸B1q b';obtain⟨o,ho⟩:∃o,S[I4 (A6 l S) e]?=some o:=⟨_,zc hlt⟩;have hs:=A3o ho;have hoS:=zg ho;have hot:=q4 o.t (zw.2 ⟨o,hoS,rfl⟩);have hlen:=(B0h hnd hfr hok hR o_ o_ b' ho htya).2.2;have hbx:∀q∈o.bxs,q∈J2 S:=λq hq=>xz.2 ⟨o,hoS,hq⟩;have hnd':=hnd;rw[nmT,xd] at hnd';have dT:∀q∈J2 S,q.1≠T:=λq hq e=>hnd'.1 (e▸A6e hq);have dc:T≠o.c:=λe=>dT _ (hbx _ (za ..)) e.symm;have his:=(hok o hoS).len;have htS:(A6 l S).things[I4 (A6 l S) e]?=some o.t:=by simp only[A6] at ho ⊢; rw[yj,ho]; rfl
 cases hfd:A3n (A6 l S) e with
 | none =>
  have:chE (A6 l S) e=5:=by unfold chE; rw[hfd]
  omega
 | some f =>
 have hfd':=hfd;unfold A3n at hfd;by_cases h5:e.field<0
 ·rw[zj h5] at hfd; cases hfd
 rw[zf h5] at hfd;have hfd:(D5 l e.type)[e.field.toNat]?=some f:=hfd;rw[hfl] at hfd;have hkl:e.field.toNat<ty.fields.length:=(ze.1 hfd).1;obtain⟨cl,hcl⟩:∃cl,o.t.cells[e.field.toNat]?=some cl:=⟨_,zc o_⟩;obtain⟨io,hio⟩:∃io,o.is[e.field.toNat]?=some io:=⟨_,zc o_⟩;have hclo:B1p (A6 l S) e=some cl:=by
  unfold B1p;rw[htS];exact hcl
 have hchE:chE (A6 l S) e=if L9 e.kind f=true then X2 (A6 l S) f cl e else 7:=by unfold chE; rw[hfd',hclo]
 rw[hchE] at h;by_cases hkf:L9 e.kind f=true
 case neg=>rw[zf hkf] at h; omega
 rw[zj hkf] at h;have hrs:A1i (A6 l S) e=A6g (A6 l S) (I4 (A6 l S) e) e.field.toNat (x8 f cl e):=by
  unfold A1i;rw[zf k1,zf k2,hfd',hclo]
 have hc8:cl.ids.length<=1000:=by have:=hot.2.2.2.2 cl (zg hcl); omega
 have hx:=A7q hcl hio;obtain⟨X,Y,hX1,hX2⟩:=B0i hcl hio;have hn:io=none->cl.ids=[]:=λhh=>(hok o hoS).nil _ _ hcl (hh▸hio);have hnd2:(nmT T (S.take (I4 (A6 l S) e)++o::S.drop (I4 (A6 l S) e+1))).Nodup:=by rw[←hs]; exact hnd
 have hfr2:∀z∈nmT T (S.take (I4 (A6 l S) e)++o::S.drop (I4 (A6 l S) e+1)),z<id\/id+1024<=z:=by rw[←hs]; exact hfr
 have hok2:∀x∈S.take (I4 (A6 l S) e)++o::S.drop (I4 (A6 l S) e+1),x.Ok:=by rw[←hs]; exact hok
 have hm2:∀q∈[(T,P9 S),(o.c,cBn o)],q∈trB T S:=λq hq=>by
  simp only[zi,yp,or_false] at hq;rcases hq with rfl|rfl
  ·exact za ..
  ·exact zb _ (hbx _ (za ..))
 have hII:∀I,io=some I->(∀D,(∀q∈[(T,P9 S),(o.c,cBn o),(I,iBx cl)],q.1≠D)->D≠I)/\T≠I/\o.c≠I/\∀q∈[(T,P9 S),(o.c,cBn o),(I,iBx cl)],q∈trB T S:=λI hI=>by
  subst hI;have hIm:(I,iBx cl)∈A0c o.t.cells o.is:=A5X _ hcl hio _ (za ..);have hIr:=hbx _ (zb _ hIm);refine⟨λD hD e=>hD (I,iBx cl) s_ e.symm,λe=>dT _ hIr e.symm,C1M hnd hoS hIm,λq hq=>?_⟩;simp only[zi,yp,or_false] at hq;rcases hq with rfl|rfl|rfl
  ·exact za ..
  ·exact zb _ (hbx _ (za ..))
  ·exact zb _ hIr
 by_cases k4:e.kind=3\/e.kind=4
 ·obtain⟨n',t',hc'⟩:∃n t,x8 f cl e=⟨n,t,cl.ids⟩:=by
   unfold x8;rcases k4 with k|k
   ·exact⟨e.n,cl.text,by rw[zj k]⟩
   ·exact⟨cl.n,e.text,by rw[zf o_,zj k]⟩
  rw[hc'] at hrs;have hW:∀id,R8 (A6 l S) f cl e o.c e.field.toNat id (List.zipWith P6 o.t.cells o.is) io=[(o.c,some ⟨(List.zipWith P6 o.t.cells o.is).set e.field.toNat (P6 ⟨n',t',cl.ids⟩ io),zC,false,false⟩)]:=λid=>by unfold R8; rw[zf (t_ h),zj k4,hc']
  have hwr:[(o.c,some (cBn (A6h o e.field.toNat ⟨n',t',cl.ids⟩ io)))]=[(o.c,some (⟨(List.zipWith P6 o.t.cells o.is).set e.field.toNat (P6 ⟨n',t',cl.ids⟩ io),zC,false,false⟩:Bx))]:=by rw[B44]
  refine B73 (io:=io) ho hrs (wr:=[(o.c,some (cBn (A6h o e.field.toNat ⟨n',t',cl.ids⟩ io)))]) ?_ ?_
  ·rw[hwr];cases io with
   | none =>
    refine (C1D l S e T id o.c (List.zipWith P6 o.t.cells o.is) e.field.toNat _ _ _ hx n' t' dc (I4 (A6 l S) e) o_ hf0 a1 a2 a3 a4 λD id hD=>?_).more hm2;have d1:D≠T:=λe=>hD _ (za ..) e.symm;have d2:D≠o.c:=λe=>hD _ (zb _ (za ..)) e.symm;refine C4H l S e 0 D T o.c id (List.zipWith P6 o.t.cells o.is) e.field.toNat _ _ _ hx n' t' k3 b' o_ d1 d2 dc λid=>?_;have:=A3l l S e (I4 (A6 l S) e) o ty f cl D T id k3 a6 o_ hfd hkf hcl hio htya a1 ho hlen his (hn rfl) o_ o_ o_ hc8 d1 d2 dc;rw[hW,h] at this;exact this
   | some I =>
    obtain⟨i1,i2,i3,i4⟩:=hII I rfl;refine (B8s l S e T id o.c (List.zipWith P6 o.t.cells o.is) e.field.toNat _ _ _ hx n' t' I cl.ids dc i2 i3 (I4 (A6 l S) e) o_ hf0 a1 a2 a3 a4 λD id hD=>?_).more i4;have d1:D≠T:=λe=>hD _ (za ..) e.symm;have d2:D≠o.c:=λe=>hD _ (zb _ (za ..)) e.symm;have d4:=i1 D hD;refine C1K l S e 0 D T o.c id (List.zipWith P6 o.t.cells o.is) e.field.toNat _ _ _ hx n' t' I cl.ids d4 i2 i3 k3 b' o_ d1 d2 dc λid=>?_;have:=A1s l S e (I4 (A6 l S) e) o ty f cl I D T id k3 a6 o_ hfd hkf hcl hio htya a1 ho hlen his o_ o_ o_ hc8 d1 d2 dc d4 i2 i3;rw[hW,h] at this;exact this
  ·refine B8q (X:=A0c o.t.cells o.is) rfl ?_ (B43 ..) (B72 (hok o hoS) hn) hnd2 hok2;show (o.c,_)::A0c (o.t.cells.set e.field.toNat ⟨n',t',cl.ids⟩) (o.is.set e.field.toNat io)=_;rw[hX2,hX1];cases io<;>rfl
 ·obtain⟨n',t',ys,hc'⟩:∃n t ys,x8 f cl e=⟨n,t,ys⟩:=⟨_,_,_,rfl⟩;rw[hc'] at hrs;have hW:∀id,R8 (A6 l S) f cl e o.c e.field.toNat id (List.zipWith P6 o.t.cells o.is) io=(if e.kind=5/\f.kind=3 then [] else A3H io)++[(o.c,some ⟨(List.zipWith P6 o.t.cells o.is).set e.field.toNat (P6 ⟨n',t',ys⟩ (some id)),zC,false,false⟩),(id,some ⟨ys.map eI,.int .i64 0,false,false⟩)]:=λid=>by unfold R8; rw[zf (t_ h),zf k4,hc']
  refine B73 (io:=some id) ho hrs (wr:=(if e.kind=5/\f.kind=3 then [] else A3H io)++[(o.c,some (cBn (A6h o e.field.toNat ⟨n',t',ys⟩ (some id)))),(id,some ⟨ys.map eI,.int .i64 0,false,false⟩)]) ?_ ?_
  ·rw[B44];cases io with
   | none =>
    have hg:(if e.kind=5/\f.kind=3 then [] else A3H none)=[]:=(by split<;>rfl);rw[hg,xq];refine (C1E l S e T id o.c (List.zipWith P6 o.t.cells o.is) e.field.toNat n' t' ys dc (I4 (A6 l S) e) o_ hf0 a1 a2 a3 a4 λD id hD=>?_).more hm2;have d1:D≠T:=λe=>hD _ (za ..) e.symm;have d2:D≠o.c:=λe=>hD _ (zb _ (za ..)) e.symm;refine C4I l S e 0 D T o.c id (List.zipWith P6 o.t.cells o.is) e.field.toNat n' t' ys k3 b' o_ d1 d2 dc λid=>?_;have:=A3l l S e (I4 (A6 l S) e) o ty f cl D T id k3 a6 o_ hfd hkf hcl hio htya a1 ho hlen his (hn rfl) o_ o_ o_ hc8 d1 d2 dc;rw[hW,h,hg] at this;exact this
   | some I =>
    obtain⟨i1,i2,i3,i4⟩:=hII I rfl;by_cases k5:e.kind=5/\f.kind=3
    ·rw[zj k5,xq];refine (B8t l S e T id o.c (List.zipWith P6 o.t.cells o.is) e.field.toNat n' t' ys I cl.ids dc i2 i3 (I4 (A6 l S) e) o_ hf0 a1 a2 a3 a4 λD id hD=>?_).more i4;have d1:D≠T:=λe=>hD _ (za ..) e.symm;have d2:D≠o.c:=λe=>hD _ (zb _ (za ..)) e.symm;have d4:=i1 D hD;refine C1L l S e 0 D T o.c id (List.zipWith P6 o.t.cells o.is) e.field.toNat n' t' ys I cl.ids d4 i2 i3 k3 b' o_ d1 d2 dc λid=>?_;have:=A1s l S e (I4 (A6 l S) e) o ty f cl I D T id k3 a6 o_ hfd hkf hcl hio htya a1 ho hlen his o_ o_ o_ hc8 d1 d2 dc d4 i2 i3;rw[hW,h,zj k5] at this;exact this
    ·rw[zf k5];refine (C1F l S e T id o.c (List.zipWith P6 o.t.cells o.is) e.field.toNat n' t' ys I cl.ids dc i2 i3 (I4 (A6 l S) e) o_ hf0 a1 a2 a3 a4 λD id hD=>?_).more i4;have d1:D≠T:=λe=>hD _ (za ..) e.symm;have d2:D≠o.c:=λe=>hD _ (zb _ (za ..)) e.symm;have d4:=i1 D hD;refine C4J l S e 0 D T o.c id (List.zipWith P6 o.t.cells o.is) e.field.toNat n' t' ys I cl.ids d4 i2 i3 k3 b' o_ d1 d2 dc λid=>?_;have:=A1s l S e (I4 (A6 l S) e) o ty f cl I D T id k3 a6 o_ hfd hkf hcl hio htya a1 ho hlen his o_ o_ o_ hc8 d1 d2 dc d4 i2 i3;rw[hW,h,zf k5] at this;exact this
  ·refine B8r (X:=X) (I:=idB cl io) (Y:=Y) (b:=⟨ys.map eI,.int .i64 0,false,false⟩) ?_ ?_ ?_ (B43 ..) (B72 (hok o hoS) s_) hnd2 hfr2 hok2
   ·show (o.c,_)::A0c o.t.cells o.is=_;rw[hX1]
   ·show (o.c,_)::A0c (o.t.cells.set e.field.toNat ⟨n',t',ys⟩) (o.is.set e.field.toNat (some id))=_;rw[hX2];rfl
   ·intro p hp;split at hp
    ·cases hp
    ·cases io with
     | none=>cases hp
     | some I=>simp only[A3H,wj] at hp; subst hp; simp[idB]
theorem C1Q(h:A14 (A6 l S) e=0):∃T' S' wr,B42 l S T e id T' S' wr:=by
 have h6:=(A0G (A32 h).1).2.2.2.2.2.1;by_cases k1:e.kind=1
 ·exact C1N hnd hfr hok hR k1 h
 by_cases k2:e.kind=2
 ·exact C1O hnd hfr hok hR k2 h
 ·exact C4L hnd hfr hok hR o_ h
end
def A2W(b:Nat):List Cl->List (Option Nat)
 | []=>[]
 | _::cs=>some b::A2W (b+1) cs
def A15(t:Nat):Nat->List Tg->List I0
 | _,[]=>[]
 | q,x::xs=>⟨x,t+1+q,A2W (t+16+16*q) x.cells⟩::A15 t (q+1) xs
def A8x:∀{l:List Cl} {b k:Nat} {c:Cl},l[k]?=some c->(A2W b l)[k]?=some (some (b+k))
 | [],_,_,_,h=>by simp at h
 | _::_,b,0,_,_=>rfl
 | _::l,b,k+1,c,h=>by
  simp only[xt] at h;rw[A2W,xt,A8x h];congr 2; omega
def A8y:∀(l:List Cl) (b:Nat),(A2W b l).length=l.length
 | [],_=>rfl
 | _::l,b=>by simp[A2W,A8y l]
def A5c(t:Nat):∀(l:List Tg) (q:Nat),(A15 t q l).length=l.length
 | [],_=>rfl
 | _::l,q=>by simp[A15,A5c t l]
def C1R(t:Nat):∀(l:List Tg) (q:Nat),(A15 t q l).map I0.t=l
 | [],_=>rfl
 | _::l,q=>by simp[A15,C1R t l]
def B74(t:Nat):∀(l:List Tg) (q:Nat),∀o∈A15 t q l,o.Ok
 | [],_,o,h=>by cases h
 | x::l,q,o,h=>by
  rcases zi.1 h with rfl|h
  ·refine⟨A8y ..,λk c h1 h2=>?_⟩;have h1:x.cells[k]?=some c:=h1;have h2:(A2W (t+16+16*q) x.cells)[k]?=some none:=h2;rw[A8x h1] at h2;cases h2
  ·exact B74 t l (q+1) o h
def A3p(b:Nat):∀(l:List Cl),∀z∈(A0c l (A2W b l)).map Prod.fst,b<=z/\z<b+l.length
 | [],z,h=>by cases h
 | c::l,z,h=>by
  simp only[A2W,A0c,idB,yg,yw,xq,zi] at h;rcases h with rfl|h
  ·simp
  ·have:=A3p (b+1) l z h;simp only[zt];omega
def A7I(b:Nat):∀(l:List Cl),((A0c l (A2W b l)).map Prod.fst).Nodup
 | []=>ql
 | c::l=>by
  simp only[A2W,A0c,idB,yg,yw,xq,xd];refine⟨λh=>?_,A7I (b+1) l⟩;have:=A3p (b+1) l b h;omega
def A7s(t:Nat):∀(l:List Tg) (q:Nat),(∀x∈l,x.cells.length<=16)->∀z∈nmR (A15 t q l),(t+1+q<=z/\z<t+1+q+l.length)\/(t+16+16*q<=z/\z<t+16+16*(q+l.length))
 | [],_,_,z,h=>by cases h
 | x::l,q,h6,z,h=>by
  rw[A15,A5Y] at h;have hx:=h6 x (za ..);simp only[zt];rcases zr.1 h with h|h
  ·rcases zi.1 h with rfl|h
   ·left; simp only; omega
   ·have h:z∈(A0c x.cells (A2W (t+16+16*q) x.cells)).map Prod.fst:=h;have:=A3p _ _ z h;omega
  ·have:=A7s t l (q+1) (λy hy=>h6 y (zb _ hy)) z h;omega
def B75(t:Nat):∀(l:List Tg) (q:Nat),(∀x∈l,x.cells.length<=16)->q+l.length<=12->(nmR (A15 t q l)).Nodup
 | [],_,_,_=>ql
 | x::l,q,h6,h12=>by
  have hx:=h6 x (za ..);simp only[zt] at h12;rw[A15,A5Y,wa];refine⟨xd.2 ⟨λh=>?_,A7I _ _⟩,B75 t l (q+1) (λy hy=>h6 y (zb _ hy)) o_,λa ha b hb=>?_⟩
  ·have h:t+1+q∈(A0c x.cells (A2W (t+16+16*q) x.cells)).map Prod.fst:=h;have:=A3p _ _ _ h;omega
  ·have hb:=A7s t l (q+1) (λy hy=>h6 y (zb _ hy)) b hb;rcases zi.1 ha with rfl|h
   ·simp only; omega
   ·have h:a∈(A0c x.cells (A2W (t+16+16*q) x.cells)).map Prod.fst:=h;have:=A3p _ _ a h;omega
def B8y(t q:Nat)(l:List Cl):n8 t q l l.length=List.zipWith P6 l (A2W (t+16+16*q) l):=by
 have:∀k,k<=l.length->n8 t q l k=(List.zipWith P6 l (A2W (t+16+16*q) l)).take k:=λk=>by
  induction k with
  | zero=>intro _; simp[n8]
  | succ k ih =>
   intro h;have hc:l[k]?=some l[k]:=zc o_;rw[n8,hc];simp only;rw[ih o_,wi,A7q hc (A8x hc)];rfl
 rw[this _ (zx _),zm];simp[A8y]
def A8z(t:Nat):∀{l:List Tg} {q i:Nat} {x:Tg},l[i]?=some x->(A15 t q l)[i]?=some ⟨x,t+1+(q+i),A2W (t+16+16*(q+i)) x.cells⟩
 | [],_,_,_,h=>by simp at h
 | x::l,q,0,y,h=>by simp only[yn,zd] at h; subst h; rfl
 | _::l,q,i+1,y,h=>by
  simp only[xt] at h;rw[A15,xt,A8z t h];have:q+1+i=q+(i+1):=by omega
  rw[this]
def B8z(t:Nat)(l:List Tg):U9 t l l.length=(A15 t 0 l).map W9:=by
 have:∀k,k<=l.length->U9 t l k=((A15 t 0 l).map W9).take k:=λk=>by
  induction k with
  | zero=>intro _; simp[U9]
  | succ k ih =>
   intro h;have hc:l[k]?=some l[k]:=zc o_;rw[U9,hc];simp only;rw[ih o_,wi,yj,A8z t hc];simp[eTo,W9]
 rw[this _ (zx _),zm];simp[A5c]
def C4M{t q:Nat}{l:List Cl}{k m:Nat}{c:Cl}(hc:l[m]?=some c)(h:m<k):(t+16+16*q+m,some (iBx c))∈A1Y t q l k:=by
 induction k with
 | zero=>omega
 | succ k ih =>
  rw[A1Y];by_cases hk:m=k
  ·subst hk; rw[hc]; exact za ..
  ·have:=ih o_;split
   ·exact zb _ this
   ·exact this
def C1S{t:Nat}{l:List Tg}{i j:Nat}{x:Tg}(hx:l[j]?=some x)(h:j<i):(t+1+j,some (cBx t j x))∈R6 t l i/\∀p∈A1Y t j x.cells x.cells.length,p∈R6 t l i:=by
 induction i with
 | zero=>omega
 | succ i ih =>
  rw[R6];by_cases hk:j=i
  ·subst hk; rw[hx]; exact⟨za ..,λp hp=>zb _ (yq _ hp)⟩
  ·have:=ih o_;split
   ·exact⟨zb _ (ye _ this.1),λp hp=>zb _ (ye _ (this.2 p hp))⟩
   ·exact this
def B45{b:Nat}:∀{l:List Cl} {p:Nat×Bx},p∈A0c l (A2W b l)->∃k c,l[k]?=some c/\p=(b+k,iBx c)
 | [],p,h=>by cases h
 | c::l,p,h=>by
  simp only[A2W,A0c,idB,yw,xq,zi] at h;rcases h with rfl|h
  ·exact⟨0,c,rfl,rfl⟩
  ·obtain⟨k,d,h1,rfl⟩:=B45 h;exact⟨k+1,d,h1,by rw[yv,qq 1 k]⟩
def C4N{t:Nat}{l:List Tg}{o:I0}(h:o∈A15 t 0 l):∃i x,l[i]?=some x/\o=⟨x,t+1+i,A2W (t+16+16*i) x.cells⟩:=by
 obtain⟨i,hi⟩:=yi.1 h;have hl:i<l.length:=by have:=(ze.1 hi).1; rwa [A5c] at this
 have hx:l[i]?=some l[i]:=zc hl;rw[A8z t hx] at hi;injection hi with hi
 exact⟨i,_,hx,by rw[←hi,yy]⟩
def C6c{t:Nat}{l:List Tg}{q:Nat×Bx}(h:q∈trB t (A15 t 0 l)):(q.1,some q.2)∈(t,some (⟨U9 t l l.length,zT,false,false⟩:Bx))::R6 t l l.length:=by
 rcases zi.1 h with rfl|h
 ·rw[B8z]; exact za ..
 ·refine zb _ ?_;obtain⟨o,ho,hq⟩:=xz.1 h;obtain⟨i,x,hx,rfl⟩:=C4N ho;have hin:=C1S (t:=t) hx (ze.1 hx).1;rcases zi.1 hq with rfl|hq
  ·have:=hin.1;rw[cBx,B8y] at this;exact this
  ·obtain⟨k,c,hc,rfl⟩:=B45 hq;exact hin.2 _ (C4M hc (ze.1 hc).1)
def C6d{t:Nat}{l:List Tg}(h6:∀x∈l,x.cells.length<=16)(h12:l.length<=12):(nmT t (A15 t 0 l)).Nodup:=by
 refine xd.2 ⟨λh=>?_,B75 t l 0 h6 o_⟩;have:=A7s t l 0 h6 t h;omega
def C1T{t:Nat}{l:List Tg}(h6:∀x∈l,x.cells.length<=16)(h12:l.length<=12):∀z∈nmT t (A15 t 0 l),t<=z/\z<t+1000:=λz h=>by
 rcases zi.1 h with rfl|h
 ·omega
 ·have:=A7s t l 0 h6 z h;omega
def C1U(t:Nat)(s:H6):A6 s.types (A15 t 0 s.things)=s:=by simp[A6,C1R]
def C1V{s:H6}(h:fSt s=0):StR s/\Srt s.things/\T8 (λf c=>!c.ids.any λx=>!M0 s f x) s.types s.things=true:=by
 unfold fSt at h;split at h
 ·rename_i h1; exact (h1 h).elim
 ·rename_i h1;have h1:H9 s.types=0:=by omega
  split at h
  ·omega
  ·rename_i h2;split at h
   ·rename_i h3; exact (h3 h).elim
   ·rename_i h3;have h3:D2 (λi t=>A1X s i t) s.things 0=0:=o_;obtain⟨g1,g2⟩:=C6b (A5W h1) h3;refine⟨⟨A5W h1,o_,g1⟩,g2,?_⟩;split at h
    ·assumption
    ·omega
def B76(f:Nat->Int)(n:Nat)(hm:∀k m,k<=m->m<n->f m<0->f k<0):∀a b,a<=b->b<=n->(∀k,k<a->f k<0)->(∀k,b<=k->k<n->¬f k<0)->(∀k,k<bs f a b->f k<0)/\(∀k,bs f a b<=k->k<n->¬f k<0):=λa b=>by
 fun_induction bs f a b with
 | case1 i j h hf ih =>
  intro h1 h2 h3 h4;exact ih o_ h2 (λk hk=>hm k ((i+j) / 2) o_ o_ hf) h4
 | case2 i j h hf ih =>
  intro h1 h2 h3 h4;refine ih o_ o_ h3 λk hk hkn h5=>hf (hm _ k hk hkn h5)
 | case3 i j h =>
  intro h1 h2 h3 h4;exact⟨h3,λk hk=>h4 k o_⟩
abbrev tLt(a b:Tg):Prop:=W4 a.type a.id b.type b.id=true
def Srt.pw{l:List Tg}(h:Srt l):l.Pairwise tLt:=by
 rw[va];exactλi j hi hj hij=>h.asc i j _ _ hij (zc hi) (zc hj)
def C5X{l:List Tg}(h1:∀t∈l,0<=t.type/\t.type<=1000)(h2:∀t∈l,1<=t.id/\t.id<=999)(h:l.Pairwise tLt):Srt l:=by
 refine⟨h1,h2,λi j a b hij ha hb=>?_⟩;rw[va] at h;obtain⟨hi,rfl⟩:=ze.1 ha;obtain⟨hj,rfl⟩:=ze.1 hb;exact h i j hi hj hij
def A5d{α:Type}{l:List α}{i:Nat}{x:α}(h:x∈l.take i):∃j,j<i/\l[j]?=some x:=by
 obtain⟨j,hj⟩:=yi.1 h;rw[zz] at hj;split at hj
 ·exact⟨j,by assumption,hj⟩
 ·cases hj
def A5e{α:Type}{l:List α}{i:Nat}{x:α}(h:x∈l.drop i):∃j,i<=j/\l[j]?=some x:=by
 obtain⟨j,hj⟩:=yi.1 h;rw[yf] at hj;exact⟨i+j,o_,hj⟩
section
variable {l:List Tg} (hl:Srt l) {kind tid:Int} (h2:0<=kind/\kind<=1000) (h4:1<=tid/\tid<=999)
include hl h2 h4
theorem Srt.part:(∀t∈l.take (C3 l kind tid),W4 t.type t.id kind tid=true)/\(∀t∈l.drop (C3 l kind tid),W4 t.type t.id kind tid=false):=by
 have hb:=B76 (J7 l kind tid) l.length (λk m hkm hm hf=>by
  obtain⟨a,ha⟩:∃a,l[k]?=some a:=⟨_,zc o_⟩;obtain⟨b,hb⟩:∃b,l[m]?=some b:=⟨_,zc o_⟩;have ham:=zg ha;have hbm:=zg hb;simp only[J7,hb] at hf;simp only[J7,ha];rw[Y3 (hl.ty b hbm) h2 (hl.id b hbm) h4] at hf;rw[Y3 (hl.ty a ham) h2 (hl.id a ham) h4];rcases yd k m with h|h
  ·exact A7H (hl.asc k m a b h ha hb) hf
  ·obtain rfl:k=m:=by omega
   rw[ha] at hb; injection hb with hb; subst hb; exact hf) 0 l.length o_ o_ o_ o_
 refine⟨λt ht=>?_,λt ht=>?_⟩
 ·obtain⟨j,hj,hjt⟩:=A5d ht;have:=hb.1 j hj;have htm:=zg hjt;simp only[J7,hjt] at this
  rwa [Y3 (hl.ty t htm) h2 (hl.id t htm) h4] at this
 ·obtain⟨j,hj,hjt⟩:=A5e ht;have:=hb.2 j hj (ze.1 hjt).1;have htm:=zg hjt;simp only[J7,hjt] at this;rw[Y3 (hl.ty t htm) h2 (hl.id t htm) h4] at this;simpa using this
theorem Srt.notThere(h:F2 l kind tid=false):∀t∈l,¬(t.type=kind/\t.id=tid):=by
 rw[hl.findB o_ (by unfold I64; omega)] at h;intro t ht ⟨e1,e2⟩;have:l.any (B8u kind tid)=true:=vo.2 ⟨t,ht,by simp[B8u,e1,e2]⟩;rw[h] at this; cases this
theorem Srt.insert(h:F2 l kind tid=false){x:Tg}(hx:x.type=kind/\x.id=tid):Srt (l.take (C3 l kind tid)++x::l.drop (C3 l kind tid)):=by
 obtain⟨p1,p2⟩:=hl.part h2 h4;have hno:=hl.notThere h2 h4 h;have hm:∀t∈l.take (C3 l kind tid)++x::l.drop (C3 l kind tid),t∈l\/t=x:=λt ht=>by
  rcases zr.1 ht with ht|ht
  ·exact .inl (xn ht)
  ·rcases zi.1 ht with ht|ht
   ·exact .inr ht
   ·exact .inl (xh ht)
 have hpw:=hl.pw;have hsp:l.Pairwise tLt:=hpw;rw[←yu (C3 l kind tid) l,uy] at hsp;refine C5X (λt ht=>?_) (λt ht=>?_) (uy.2 ⟨hsp.1,tz.2 ⟨λb hb=>?_,hsp.2.1⟩,λa ha b hb=>?_⟩)
 ·rcases hm t ht with h|rfl
  ·exact hl.ty t h
  ·omega
 ·rcases hm t ht with h|rfl
  ·exact hl.id t h
  ·omega
 ·have h5:=p2 b hb;have h6:=hno b (xh hb);show W4 _ _ _ _=true;rw[hx.1,hx.2];simp[W4] at h5 ⊢;omega
 ·rcases zi.1 hb with rfl|hb
  ·show W4 _ _ _ _=true;rw[hx.1,hx.2]; exact p1 a ha
  ·exact hsp.2.2 a ha b hb
theorem Srt.thereAt(h:F2 l kind tid=true):∃t,l[C3 l kind tid]?=some t/\t.type=kind/\t.id=tid:=by
 simp only[F2,yk,decide_eq_true_eq] at h;obtain⟨hlt,hz⟩:=h;obtain⟨u,hu⟩:∃u,l[C3 l kind tid]?=some u:=⟨_,zc hlt⟩;have hum:=zg hu;simp only[J7,hu] at hz;rw[A5a (hl.ty u hum) o_ (hl.id u hum) (by unfold I64; omega)] at hz;exact⟨u,hu,hz⟩
end
def Srt.sub{l l':List Tg}(h:Srt l)(hs:l'.Sublist l):Srt l' :=
 C5X (λt ht=>h.ty t (hs.subset ht)) (λt ht=>h.id t (hs.subset ht)) (h.pw.sublist hs)
def B77{α:Type}(l:List α)(i:Nat):(l.take i++l.drop (i+1)).Sublist l:=by
 conv=>rhs; rw[←yu i l]
 refine (List.Sublist.refl _).append ?_;rw[←List.tail_drop];exact List.tail_sublist _
def Srt.key{l l':List Tg}(hl:Srt l)(h:l.map (λt=>(t.type,t.id))=l'.map (λt=>(t.type,t.id))):Srt l':=by
 have hg:∀(k:Nat) t,l'[k]?=some t->∃u,l[k]?=some u/\u.type=t.type/\u.id=t.id:=λk t hk=>by
  have:(l.map (λt=>(t.type,t.id)))[k]?=(l'.map (λt=>(t.type,t.id)))[k]?:=by rw[h]
  rw[yj,yj,hk] at this;cases h1:l[k]?<;>simp[h1] at this
  exact⟨_,rfl,this.1,this.2⟩
 refine⟨λt ht=>?_,λt ht=>?_,λi j a b hij ha hb=>?_⟩
 ·obtain⟨k,hk⟩:=yi.1 ht;obtain⟨u,hu,e1,e2⟩:=hg k t hk;rw[←e1]; exact hl.ty u (zg hu)
 ·obtain⟨k,hk⟩:=yi.1 ht;obtain⟨u,hu,e1,e2⟩:=hg k t hk;rw[←e2]; exact hl.id u (zg hu)
 ·obtain⟨u,hu,e1,e2⟩:=hg i a ha;obtain⟨v,hv,e3,e4⟩:=hg j b hb;rw[←e1,←e2,←e3,←e4];exact hl.asc i j u v hij hu hv
/-! Numbers in order. -/
def A7t:∀{l:List Int},A4v l=true↔l.Pairwise (· < ·)
 | []=>by simp[A4v]
 | [a]=>by simp[A4v]
 | a::b::r=>by
  have ih:=A7t (l:=b::r);simp only[A4v,yk,decide_eq_true_eq];rw[ih,tz (a:=a)];constructor
  ·rintro⟨h1,h2⟩;refine⟨λx hx=>?_,h2⟩;rcases zi.1 hx with rfl|hx
   ·exact h1
   ·have:=(tz.1 h2).1 x hx;omega
  ·rintro⟨h1,h2⟩;exact⟨h1 b (za ..),h2⟩
section
variable {l:List Int} (hl:l.Pairwise (· < ·))
include hl
theorem C6e(x:Int):(∀y∈l.take (L2 l x),y<x)/\(∀y∈l.drop (L2 l x),x<=y):=by
 have hb:=B76 (fLt l x) l.length (λk m hkm hm hf=>by
  obtain⟨a,ha⟩:∃a,l[k]?=some a:=⟨_,zc o_⟩;obtain⟨b,hb⟩:∃b,l[m]?=some b:=⟨_,zc o_⟩;simp only[fLt,hb] at hf;simp only[fLt,ha];rcases yd k m with h|h
  ·rw[va] at hl;have:=hl k m o_ hm h;rw[zc o_] at ha hb;injection ha with ha; injection hb with hb
   omega
  ·obtain rfl:k=m:=by omega
   rw[ha] at hb; injection hb with hb; subst hb; exact hf) 0 l.length o_ o_ o_ o_
 refine⟨λt ht=>?_,λt ht=>?_⟩
 ·obtain⟨j,hj,hjt⟩:=A5d ht;have:=hb.1 j hj;simp only[fLt,hjt] at this;omega
 ·obtain⟨j,hj,hjt⟩:=A5e ht;have:=hb.2 j hj (ze.1 hjt).1;simp only[fLt,hjt] at this;omega
theorem C4O{j:Nat}{x:Int}(h:l[j]?=some x):L2 l x=j:=by
 have hlt:=(ze.1 h).1;unfold L2;refine A7r _ j (l.length+1) 0 l.length o_ o_ o_ (λk _ hk=>?_) (λk hk hkl=>?_)
 ·have:=(va.1 hl) k j o_ hlt hk;rw[zc hlt] at h;injection h with h
  simp only[fLt,zc (show k<l.length by omega)];omega
 ·rw[zc hlt] at h;injection h with h
  simp only[fLt,zc hkl];rcases yd j k with hjk|hjk
  ·have:=(va.1 hl) j k hlt hkl hjk;omega
  ·obtain rfl:k=j:=by omega
   omega
theorem C4P(x:Int):V9 l x=true↔x∈l:=by
 constructor
 ·intro h;simp only[V9,yk,decide_eq_true_eq] at h;obtain⟨h1,h2⟩:=h;obtain⟨a,ha⟩:∃a,l[L2 l x]?=some a:=⟨_,zc h1⟩;simp only[fLt,ha] at h2;have:a=x:=by omega
  subst this;exact zg ha
 ·intro h;obtain⟨j,hj⟩:=yi.1 h;have:=C4O hl hj;simp only[V9,this,yk,decide_eq_true_eq,fLt,hj];exact⟨(ze.1 hj).1,o_⟩
theorem C1W{x:Int}(h:V9 l x=false):(l.take (L2 l x)++x::l.drop (L2 l x)).Pairwise (· < ·):=by
 obtain⟨p1,p2⟩:=C6e hl x;have hn:x∉l:=λhm=>by rw[(C4P hl x).2 hm] at h; cases h
 have hsp:=hl;rw[←yu (L2 l x) l,uy] at hsp;refine uy.2 ⟨hsp.1,tz.2 ⟨λb hb=>?_,hsp.2.1⟩,λa ha b hb=>?_⟩
 ·have:=p2 b hb;have:x≠b:=λe=>hn (e▸xh hb);omega
 ·rcases zi.1 hb with rfl|hb
  ·exact p1 a ha
  ·exact hsp.2.2 a ha b hb
end
def B78{f:Fd}{c:Cl}(h:B8f f c):A2Q f c=0:=by
 unfold A2Q;rw[zf (by
  rintro (⟨h1,h2⟩|⟨h1,h2⟩|⟨h1,h2⟩)
  ·exact h2 (h.n0 h1)
  ·exact h2 (h.t0 h1)
  ·exact h2 (h.i0 h1)),zf (by have:=h.n1; omega),zf (by
  have:=h.t1;have:=h.i1;have:=h.i3;unfold A5V;split<;>omega),zj h.asc]
def A50{α:Type}(f:Nat->α->Int):∀(l:List α) (i:Nat),(∀k x,l[k]?=some x->f (i+k) x=0)->D2 f l i=0
 | [],i,_=>rfl
 | y::r,i,h=>by
  simp only[D2];have h0:=h 0 y rfl;rw[zf (v_ h0)];exact A50 f r (i+1) λk x hk=>by have:=h (k+1) x (v_ hk); rwa [show i+(k+1)=i+1+k by omega] at this
def C4Q{s:H6}{t:Tg}(h:A4w s t):j6 s.types t=0:=by
 unfold j6;have h1:=h.ty0;have h2:=h.ty1;have h3:=h.id1;have h4:=h.id2;rw[zf o_,zf o_,zf (by rw[h.len]; omega)];exact A50 _ _ _ λk c hc=>by rw[yy]; exact h.cell k c hc
def A90{p:Fd->Cl->Bool}:∀{fs:List Fd} {cs:List Cl},A1W p fs cs=true↔∀(k:Nat) f c,fs[k]?=some f->cs[k]?=some c->p f c=true
 | [],cs=>by simp[A1W]
 | f::fs,[]=>by simp[A1W]
 | f::fs,c::cs=>by
  rw[A1W,yk,A90];constructor
  ·rintro⟨h1,h2⟩ k f' c' hf hc;cases k with
   | zero=>simp at hf hc; subst hf hc; exact h1
   | succ k=>exact h2 k f' c' (v_ hf) (v_ hc)
  ·intro h;exact⟨h 0 f c rfl rfl,λk f' c' hf hc=>h (k+1) f' c' (v_ hf) (v_ hc)⟩
def A6i{p:Fd->Cl->Bool}{l:List Ty}{ts:List Tg}:T8 p l ts=true↔∀t∈ts,∀(k:Nat) f c,(D5 l t.type)[k]?=some f->t.cells[k]?=some c->p f c=true:=by
 simp only[T8,xe,A90]
structure Rt(s:H6):Prop where
 chk:H9 s.types=0
 r:StR s
 srt:Srt s.things
 lnk:∀t∈s.things,∀(k:Nat) f c,(D5 s.types t.type)[k]?=some f->t.cells[k]?=some c->∀x∈c.ids,∃u∈s.things,u.type=B8 s.types f.of/\u.id=x
def B90(s:H6):Prop:=∀t∈s.things,∀c∈t.cells,∀x∈c.ids,I64 x
def A3q{s:H6}(hS:A7F s.types)(hl:Srt s.things){f:Fd}{x:Int}(hx:I64 x):M0 s f x=true↔∃u∈s.things,u.type=B8 s.types f.of/\u.id=x:=by
 unfold M0;rw[hl.findB (B8w hS _) hx,vo];simp[B8u]
def Rt.idsI{s:H6}(h:Rt s):B90 s:=λt ht c hc x hx=>by
 obtain⟨k,hk⟩:=yi.1 hc;obtain⟨f,hf,_⟩:=(h.r.tg t ht).cellOk hk;obtain⟨u,hu,_,rfl⟩:=h.lnk t ht k f c hf hk x hx;have:=h.srt.id u hu;unfold I64; omega
def C81{s:H6}(h:fSt s=0)(hI:B90 s):Rt s:=by
 obtain⟨h1,h2,h3⟩:=C1V h;have hc:H9 s.types=0:=by
  unfold fSt at h;split at h
  ·rename_i g; exact (g h).elim
  ·rename_i g; exact zk g
 refine⟨hc,h1,h2,λt ht k f c hf hk x hx=>?_⟩;have:=A6i.1 h3 t ht k f c hf hk;simp only[wy,uv] at this;have:=this x hx;rw[←A3q h1.sch h2 (hI t ht c (zg hk) x hx)];simpa using this
def Rt.st{s:H6}(h:Rt s):fSt s=0:=by
 have hI:=h.idsI;unfold fSt;have h12:=h.r.len;have h1:D2 (λi t=>A1X s i t) s.things 0=0:=A50 _ _ _ λk t hk=>by
  have htm:=zg hk;rw[yy];unfold A1X;rw[zf (by rw[C4Q (h.r.tg t htm)]; omega),zf];rintro⟨h2,h3⟩;obtain⟨u,hu⟩:∃u,s.things[k - 1]?=some u:=⟨_,zc (by have:=(ze.1 hk).1; omega)⟩;have hum:=zg hu;simp only[J7,hu] at h3;have h4:=h.srt.asc (k - 1) k u t o_ hu hk;rw[←Y3 (h.srt.ty u hum) (h.srt.ty t htm) (h.srt.id u hum) (h.srt.id t htm)] at h4;omega
 rw[zf (by rw[h.chk]; omega),zf o_,zf (by rw[h1]; omega),zj];rw[A6i];intro t ht k f c hf hk;simp only[wy,uv];intro x hx;rw[(A3q h.r.sch h.srt (hI t ht c (zg hk) x hx)).2 (h.lnk t ht k f c hf hk x hx)];simp
/-! Events. -/
def B91{l:List Ty}{ts:List Tg}{e:Ev}:T8 (W3 l e) l ts=true↔∀t∈ts,∀(k:Nat) f c,(D5 l t.type)[k]?=some f->t.cells[k]?=some c->j0 f.kind=true->B8 l f.of=e.type->e.id∉c.ids:=by
 rw[A6i];constructor
 ·intro h t ht k f c hf hc hk ho hm;have:=h t ht k f c hf hc;simp only[W3,hk,ho,C4D,ul,wy,beq_eq_false_iff_ne,uv] at this;rcases this with (h1|h1)|h1
  ·cases h1
  ·exact h1 rfl
  ·exact h1 _ hm s_
 ·intro h t ht k f c hf hc;have:=h t ht k f c hf hc;simp only[W3,C4D,ul,wy,beq_eq_false_iff_ne,uv];by_cases h1:j0 f.kind=true
  ·by_cases h2:B8 l f.of=e.type
   ·right
    have:=this h1 h2;intro x hx he;simp at he;exact this (he▸hx)
   ·left; right; exact h2
  ·left; left; simpa using h1
def B5j{s:H6}{k:Int}{j:Nat}{f:Fd}(hS:A7F s.types)(h:(D5 s.types k)[j]?=some f):1<=f.kind/\f.kind<=4:=by
 unfold D5 at h;cases hk:s.types[k.toNat]? with
 | none=>simp[hk] at h
 | some ty =>
  simp[hk] at h;exact hS.kinds ty (zg hk) f (zg h)
structure C6f(s:H6)(e:Ev):Prop where
 form:W7 e=0
 ty0:0<=e.type
 ty1:e.type.toNat<s.types.length
 ty2:e.type<=1000
 id1:1<=e.id
 id2:e.id<=999
 k1:1<=e.kind
 k2:e.kind<=6
 don:doE s e=0
def C9L{s:H6}(h:Rt s){e:Ev}(he:A14 s e=0):C6f s e:=by
 unfold A14 at he;by_cases h0:n9 s.types e=0
 ·rw[zf (v_ h0)] at he;obtain⟨a1,a2,a3,a4,a5,a6,a7⟩:=A0G h0;have:=h.r.sch.len;exact⟨a1,a2,o_,o_,a4,a5,a6,a7,he⟩
 ·rw[zj h0] at he; exact (h0 he).elim
structure C9M(s:H6)(e:Ev)(t:Tg)(f:Fd)(c:Cl):Prop where
 tt:s.things[I4 s e]?=some t
 ty:t.type=e.type
 idn:t.id=e.id
 f0:0<=e.field
 ff:(D5 s.types e.type)[e.field.toNat]?=some f
 cc:t.cells[e.field.toNat]?=some c
 fits:L9 e.kind f=true
 che:X2 s f c e=0
 st:A1i s e=A6g s (I4 s e) e.field.toNat (x8 f c e)
def B46{s:H6}{e:Ev}(he:C6f s e)(hk:e.kind≠1):A31 s e=true:=by
 have hd:=he.don;unfold doE at hd;rw[zf hk] at hd;by_cases b:A31 s e=false
 ·rw[zj b] at hd; omega
 ·simpa using b
def C9N{s:H6}(h:Rt s){e:Ev}(he:C6f s e)(hk:3<=e.kind):∃t f c,C9M s e t f c:=by
 have hb:=B46 he o_;obtain⟨t,ht,e1,e2⟩:=h.srt.thereAt ⟨he.ty0,he.ty2⟩ ⟨he.id1,he.id2⟩ hb;have hd:=he.don;unfold doE at hd;rw[zf o_,zf (t_ hb),zf o_] at hd;unfold chE at hd;have ht':s.things[I4 s e]?=some t:=ht;split at hd
 ·rename_i f c hf hc;by_cases hkf:L9 e.kind f=true
  ·rw[zj hkf] at hd;have hst:A1i s e=A6g s (I4 s e) e.field.toNat (x8 f c e):=by
    unfold A1i;rw[zf o_,zf o_,hf,hc]
   unfold A3n at hf;by_cases h0:e.field<0
   ·rw[zj h0] at hf; cases hf
   rw[zf h0] at hf;unfold B1p at hc;rw[ht'] at hc;exact⟨t,f,c,ht',e1,e2,o_,hf,hc,hkf,hd,hst⟩
  ·rw[zf hkf] at hd; omega
 ·omega
def C4R{s:H6}{i k:Nat}{t:Tg}{c:Cl}(h:s.things[i]?=some t):A6g s i k c=⟨s.types,s.things.set i ⟨t.type,t.id,t.cells.set k c⟩⟩:=by unfold A6g; rw[h]
def C1X{s:H6}{i k:Nat}{c:Cl}:s.things.map (λt=>(t.type,t.id))=(A6g s i k c).things.map (λt=>(t.type,t.id)):=by
 unfold A6g;cases h:s.things[i]? with
 | none=>rfl
 | some t =>
  simp only[sj];refine (C1P ?_).symm;rw[yj,h]; rfl
def C4S{l l':List Tg}(h:l.map (λt=>(t.type,t.id))=l'.map (λt=>(t.type,t.id))){u:Tg}(hu:u∈l):∃v∈l',v.type=u.type/\v.id=u.id:=by
 have:(u.type,u.id)∈l.map (λt=>(t.type,t.id)):=zw.2 ⟨u,hu,rfl⟩;rw[h] at this;obtain⟨v,hv,e⟩:=zw.1 this;injection e with e1 e2
 exact⟨v,hv,e1,e2⟩
def C4T{s:H6}(h:Rt s){e:Ev}(hn:I64 e.n)(hk:3<=e.kind/\e.kind<=6){f:Fd}{c:Cl}(hf:1<=f.kind/\f.kind<=4)(hc:B8f f c)(hfit:L9 e.kind f=true)(he:X2 s f c e=0):
  B8f f (x8 f c e)/\∀x∈(x8 f c e).ids,x∈c.ids\/∃u∈s.things,u.type=B8 s.types f.of/\u.id=x:=by
 have hpw:=A7t.1 hc.asc;unfold X2 at he;unfold L9 at hfit;unfold x8;by_cases k3:e.kind=3
 ·rw[zj k3] at he hfit ⊢;simp only[decide_eq_true_eq] at hfit;split at he
  ·exact⟨⟨(λhh=>(hh hfit).elim),hc.t0,hc.i0,by assumption,hc.t1,hc.i1,hc.i3,hc.asc⟩,λx hx=>.inl hx⟩
  ·omega
 rw[zf k3] at he hfit ⊢;by_cases k4:e.kind=4
 ·rw[zj k4] at he hfit ⊢;simp only[decide_eq_true_eq] at hfit;split at he
  ·omega
  ·exact⟨⟨hc.n0,(λhh=>(hh hfit).elim),hc.i0,hc.n1,n_,hc.i1,hc.i3,hc.asc⟩,λx hx=>.inl hx⟩
 rw[zf k4] at he hfit ⊢;by_cases k5:e.kind=5
 ·rw[zj k5] at he ⊢;unfold T4 at he;by_cases ht:M0 s f e.n=false
  ·rw[zj ht] at he; omega
  rw[zf ht] at he;have ht:M0 s f e.n=true:=by simpa using ht
  have hu:=(A3q h.r.sch h.srt hn).1 ht;by_cases hb:V9 c.ids e.n=true
  ·rw[zj hb] at he; omega
  rw[zf hb] at he;have hb:V9 c.ids e.n=false:=by simpa using hb
  unfold T9;by_cases g3:f.kind=3
  ·rw[zj g3];refine⟨⟨hc.n0,hc.t0,(λhh=>by rw[hfit] at hh; cases hh),hc.n1,hc.t1,s_,λ_=>s_,rfl⟩,λx hx=>.inr ?_⟩;simp at hx;subst hx;exact hu
  ·rw[zf g3] at he ⊢;have h6:=hc.i1;refine⟨⟨hc.n0,hc.t0,(λhh=>by rw[hfit] at hh; cases hh),hc.n1,hc.t1,?_,λhh=>(g3 hh).elim,A7t.2 (C1W hpw hb)⟩,λx hx=>?_⟩
   ·have:c.ids.length≠6:=λhh=>by rw[zj hh] at he; omega
    simp only[zu,zy,zt,ya];omega
   ·rcases zr.1 hx with hx|hx
    ·exact .inl (xn hx)
    ·rcases zi.1 hx with rfl|hx
     ·exact .inr hu
     ·exact .inl (xh hx)
 ·rw[zf k5] at he ⊢;have hsub:(B40 c e.n).Sublist c.ids:=B77 _ _;have hle:=hsub.length_le;refine⟨⟨hc.n0,hc.t0,(λhh=>by rw[hfit] at hh; cases hh),hc.n1,hc.t1,by have:=hc.i1; simp only; omega,λhh=>by have:=hc.i3 hh; simp only; omega,A7t.2 (hpw.sublist hsub)⟩,λx hx=>.inl (hsub.subset hx)⟩
def A51{s s':H6}(h:s'.types=s.types){t:Tg}(ht:A4w s t):A4w s' t:=by
 refine⟨ht.ty0,by rw[h]; exact ht.ty1,ht.id1,ht.id2,by rw[h]; exact ht.len,by rw[h]; exact ht.cell⟩
def C6g(f:Fd):B8f f cl0:=by
 refine⟨λ_=>rfl,λ_=>rfl,λ_=>rfl,?_,?_,?_,λ_=>?_,rfl⟩<;>simp[cl0]
def C1Y{s:H6}(h:Rt s){e:Ev}(hn:I64 e.n)(he:A14 s e=0):Rt (A1i s e)/\(A1i s e).types=s.types:=by
 have ho:=C9L h he;have h2:0<=e.type/\e.type<=1000:=⟨ho.ty0,ho.ty2⟩;have h4:1<=e.id/\e.id<=999:=⟨ho.id1,ho.id2⟩;have hd:=ho.don;by_cases k1:e.kind=1
 ·unfold doE at hd;rw[zj k1] at hd;by_cases b:A31 s e=true
  ·rw[zj b] at hd; omega
  rw[zf b] at hd;by_cases b2:s.things.length=12
  ·rw[zj b2] at hd; omega
  have hb:F2 s.things e.type e.id=false:=eq_false_of_ne_true b;have hS:A1i s e=⟨s.types,s.things.take (I4 s e)++⟨e.type,e.id,List.replicate (D5 s.types e.type).length cl0⟩::s.things.drop (I4 s e)⟩:=by unfold A1i; rw[zj k1]
  rw[hS];have hm:∀t∈s.things.take (I4 s e)++⟨e.type,e.id,List.replicate (D5 s.types e.type).length cl0⟩::s.things.drop (I4 s e),t∈s.things\/t=⟨e.type,e.id,List.replicate (D5 s.types e.type).length cl0⟩:=λt ht=>by
   rcases zr.1 ht with ht|ht
   ·exact .inl (xn ht)
   ·rcases zi.1 ht with ht|ht
    ·exact .inr ht
    ·exact .inl (xh ht)
  have hm':∀t∈s.things,t∈s.things.take (I4 s e)++⟨e.type,e.id,List.replicate (D5 s.types e.type).length cl0⟩::s.things.drop (I4 s e):=λt ht=>by
   rw[←yu (I4 s e) s.things] at ht;rcases zr.1 ht with ht|ht
   ·exact yq _ ht
   ·exact ye _ (zb _ ht)
  refine⟨⟨h.chk,⟨h.r.sch,?_,λt ht=>?_⟩,h.srt.insert h2 h4 hb ⟨rfl,rfl⟩,λt ht k f c hf hc x hx=>?_⟩,rfl⟩
  ·have:=h.r.len;have:=B70 s.things e.type e.id;simp only[zu,zy,zt,ya];unfold I4;omega
  ·rcases hm t ht with ht|rfl
   ·exact A51 (s:=s) (by rfl) (h.r.tg t ht)
   ·refine⟨ho.ty0,ho.ty1,ho.id1,ho.id2,s_,λk c hc=>?_⟩;simp only[vk] at hc;split at hc
    ·injection hc with hc
     subst hc;unfold A0E;split
     ·exact B78 (C6g _)
     ·rfl
    ·cases hc
  ·rcases hm t ht with ht|rfl
   ·obtain⟨u,hu,e1,e2⟩:=h.lnk t ht k f c hf hc x hx;exact⟨u,hm' u hu,e1,e2⟩
   ·simp only[vk] at hc;split at hc
    ·injection hc with hc
     subst hc;simp[cl0] at hx
    ·cases hc
 have hb:=B46 ho k1;by_cases k2:e.kind=2
 ·obtain⟨t0,ht0,e1,e2⟩:=h.srt.thereAt h2 h4 hb;have ht0':s.things[I4 s e]?=some t0:=ht0;unfold doE at hd;rw[zf k1,zf (t_ hb),zj k2] at hd;by_cases m:T8 (W3 s.types e) s.types s.things=false
  ·rw[zj m] at hd; omega
  have m:T8 (W3 s.types e) s.types s.things=true:=by simpa using m
  rw[B91] at m;have hS:A1i s e=⟨s.types,s.things.take (I4 s e)++s.things.drop (I4 s e+1)⟩:=by unfold A1i; rw[zf k1,zj k2]
  rw[hS];have hsub:(s.things.take (I4 s e)++s.things.drop (I4 s e+1)).Sublist s.things:=B77 _ _;refine⟨⟨h.chk,⟨h.r.sch,by have:=hsub.length_le; have:=h.r.len; simp only; omega,λt ht=>A51 (s:=s) (by rfl) (h.r.tg t (hsub.subset ht))⟩,h.srt.sub hsub,λt ht k f c hf hc x hx=>?_⟩,rfl⟩;have htm:=hsub.subset ht;obtain⟨u,hu,e3,e4⟩:=h.lnk t htm k f c hf hc x hx;refine⟨u,?_,e3,e4⟩;have hs:=A3o ht0';rw[hs] at hu;rcases zr.1 hu with hu|hu
  ·exact yq _ hu
  ·rcases zi.1 hu with rfl|hu
   ·exfalso;obtain⟨f',hf',hco⟩:=(h.r.tg t htm).cellOk hc;have hf:(D5 s.types t.type)[k]?=some f:=hf;rw[hf] at hf'; injection hf' with hf'; subst hf'
    have hlk:j0 f.kind=true:=by
     cases hh:j0 f.kind with
     | true=>rfl
     | false=>rw[hco.i0 hh] at hx; cases hx
    exact m t htm k f c hf hc hlk (by rw[←e1]; exact e3.symm) (by rw[←e2,e4]; exact hx)
   ·exact ye _ hu
 ·have hk3:3<=e.kind:=by have:=ho.k1; omega
  obtain⟨t,f,c,hh⟩:=C9N h ho hk3;rw[hh.st];have htm:=zg hh.tt;have htg:=h.r.tg t htm;obtain⟨f',hf',hco⟩:=htg.cellOk hh.cc;have hff:=hh.ff;rw[←hh.ty,hf'] at hff;injection hff with hff
  subst hff;obtain⟨g1,g2⟩:=C4T h hn ⟨hk3,ho.k2⟩ (B5j h.r.sch hf') hco hh.fits hh.che;have hkey:=C1X (s:=s) (i:=I4 s e) (k:=e.field.toNat) (c:=x8 f' c e);have heq:=C4R (k:=e.field.toNat) (c:=x8 f' c e) hh.tt;have hmem:∀x∈(A6g s (I4 s e) e.field.toNat (x8 f' c e)).things,x∈s.things\/x=⟨t.type,t.id,t.cells.set e.field.toNat (x8 f' c e)⟩:=λx hx=>by
   rw[heq] at hx;exact vt hx
  refine⟨⟨h.chk,⟨h.r.sch,by rw[heq]; simpa using h.r.len,λx hx=>?_⟩,h.srt.key hkey,λx hx k f c2 hf hc y hy=>?_⟩,rfl⟩
  ·rcases hmem x hx with hx|rfl
   ·exact A51 (s:=s) (by rfl) (h.r.tg x hx)
   ·refine⟨htg.ty0,htg.ty1,htg.id1,htg.id2,by rw[List.length_set]; exact htg.len,λk c2 hc2=>?_⟩;simp only[uq] at hc2;by_cases hk:e.field.toNat=k
    ·subst hk;rw[zj rfl] at hc2;split at hc2
     ·injection hc2 with hc2
      subst hc2;show A0E (D5 s.types t.type) _ _=0;unfold A0E;rw[hf'];exact B78 g1
     ·cases hc2
    ·rw[zf hk] at hc2;exact htg.cell k c2 hc2
  ·have key:(∃u∈s.things,u.type=B8 s.types f.of/\u.id=y)->∃u∈(A6g s (I4 s e) e.field.toNat (x8 f' c e)).things,u.type=B8 s.types f.of/\u.id=y:=λ⟨u,hu,e1,e2⟩=>by
    obtain⟨v,hv,e3,e4⟩:=C4S hkey hu;exact⟨v,hv,e3.trans e1,e4.trans e2⟩
   refine key ?_;rcases hmem x hx with hx|rfl
   ·exact h.lnk x hx k f c2 hf hc y hy
   ·simp only[uq] at hc;by_cases hk:e.field.toNat=k
    ·subst hk;rw[zj rfl] at hc;split at hc
     ·injection hc with hc
      subst hc;have hf:(D5 s.types t.type)[e.field.toNat]?=some f:=hf;rw[hf'] at hf;injection hf with hf
      subst hf;rcases g2 y hy with h1|h1
      ·exact h.lnk t htm _ _ c hf' hh.cc y h1
      ·exact h1
     ·cases hc
    ·rw[zf hk] at hc;exact h.lnk t htm k f c2 hf hc y hy
end Go.Am
