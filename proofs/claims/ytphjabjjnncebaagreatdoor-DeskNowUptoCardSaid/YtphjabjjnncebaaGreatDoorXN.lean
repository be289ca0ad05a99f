/- Parts of the proof: an abstract machine for Go functions, and what functions of the program give back (Ra6, Ra7, Ra8, Rd1, Pu1, Pu2, Bf1, Pu3). No condition. -/
import Derived.Test.YtphjabjjnncebaaGreatDoorXM
import Derived.Test.YtphjabjjnncebaaGreatDoorXJ
import Derived.Test.YtphjabjjnncebaaGreatDoorXG
set_option maxRecDepth 100000
set_option linter.all false
namespace Go.Am
open Go Go.Proofs Go.RowKit Go.Proofs.Tryz
def I0(s:H7)(e:Ev):Nat:=C3 s.things e.type e.id
def A3Y(s:H7)(e:Ev):Bool:=F4 s.things e.type e.id
def A5Q(s:H7)(e:Ev):Option Fd:=if e.field<0 then none else (D7 s.types e.type)[e.field.toNat]?
def B4y(s:H7)(e:Ev):Option Cl:=match s.things[I0 s e]? with
 | some t=>t.cells[e.field.toNat]?
 | none=>none
def chE(s:H7)(e:Ev):Int:=match A5Q s e,B4y s e with
 | some f,some c=>if M2 e.kind f=true then X6 s f c e else 7
 | _,_=>5
def doE(s:H7)(e:Ev):Int :=
 if e.kind=1 then (if A3Y s e=true then 6 else if s.things.length=12 then 2 else 0)
 else if A3Y s e=false then 5 else if e.kind=2 then (if T7 (U4 s.types e) s.types s.things=false then 4 else 0) else chE s e
def A2L(s:H7)(e:Ev):Int:=if x5 s.types e≠0 then x5 s.types e else doE s e
def A7I(s:H7)(i k:Nat)(c:Cl):H7:=⟨s.types,match s.things[i]? with
 | some t=>s.things.set i ⟨t.type,t.id,t.cells.set k c⟩
 | none=>s.things⟩
def A35(s:H7)(e:Ev):H7 :=
 if e.kind=1 then ⟨s.types,s.things.take (I0 s e)++⟨e.type,e.id,List.replicate (D7 s.types e.type).length cl0⟩::s.things.drop (I0 s e)⟩
 else if e.kind=2 then ⟨s.types,s.things.take (I0 s e)++s.things.drop (I0 s e+1)⟩
 else match A5Q s e,B4y s e with
  | some f,some c=>A7I s (I0 s e) e.field.toNat (z7 f c e)
  | _,_=>s
structure StR(s:H7):Prop where
 sch:A71 s.types
 len:s.things.length<=12
 tg:∀t∈s.things,A4h s t
def A3Z{α:Type}{l:List α}{i:Nat}{x:α}(h:l[i]?=some x):l=l.take i++x::l.drop (i+1):=by
 obtain⟨h1,h2⟩:=ze.1 h;conv=>lhs; rw[←xf i l,xm h1,h2]
def A0F{l:List Ty}{e:Ev}(h:x5 l e=0):p9 e=0/\0<=e.type/\e.type<=(l.length:Int) - 1/\1<=e.id/\e.id<=999/\1<=e.kind/\e.kind<=6:=by
 unfold x5 at h;split at h
 ·rename_i h1; exact (h1 h).elim
 ·rename_i h1;split at h
  ·omega
  ·split at h
   ·omega
   ·rename_i h2 h3;have h1:p9 e=0:=o_;have hk:1<=e.kind/\e.kind<=6:=by
     unfold p9 at h1;split at h1
     ·omega
     ·rename_i h4; omega
    exact⟨h1,o_,o_,o_,o_,hk.1,hk.2⟩
def B6I(l:List Tg)(a b:Int):C3 l a b<=l.length:=(B69 _ _ _ (sd _)).2
def B1O{l:List Tg}{a b:Int}(h:F4 l a b=true):C3 l a b<l.length:=by unfold F4 at h; simp at h; exact h.1
section
variable {l:List Ty} {S:List H0} {T:Nat} {e:Ev} {id:Nat} (hnd:(d0 T S).Nodup) (hfr:∀z∈d0 T S,z<id\/id+1024<=z) (hok:∀o∈S,o.Ok) (hR:StR (A6 l S))
include hnd hfr hok hR
theorem A5R:l.length<=5/\S.length<=12/\(∀t∈l,t.fields.length<=6)/\∀t∈S.map H0.t,0<=t.type/\t.type.toNat<l.length/\t.cells.length=(D7 l t.type).length/\t.cells.length<=1000000/\∀c∈t.cells,c.ids.length<=6:=by
 refine⟨hR.sch.len,by have:=hR.len; simpa [A6] using this,hR.sch.fields,λt ht=>?_⟩;have h:=hR.tg t ht;have h6:=h.cells6 hR.sch;refine⟨h.ty0,h.ty1,h.len,o_,λc hc=>?_⟩;obtain⟨k,hk⟩:=yp.1 hc;obtain⟨f,_,hco⟩:=h.cellOk hk;exact hco.i1
theorem B0I(h1 : -1<=e.type/\e.type<=1000)(h2:1<=e.id/\e.id<=999)(hb:A3Y (A6 l S) e=true){o:H0}(ho:S[I0 (A6 l S) e]?=some o){ty:Ty}(hty:l[e.type.toNat]?=some ty):o.t.type=e.type/\o.t.id=e.id/\o.t.cells.length=ty.fields.length:=by
 have ht:(A6 l S).things[I0 (A6 l S) e]?=some o.t:=by simp only[A6] at ho ⊢; rw[ym,ho]; rfl
 have hg:=hR.tg o.t (zg ht);have h5:=hR.sch.len;have hz:K6 (A6 l S).things e.type e.id (I0 (A6 l S) e)=0:=by unfold A3Y F4 at hb; simp at hb; exact hb.2
 unfold K6 at hz;rw[ht] at hz;have hz:A1Z o.t.type o.t.id e.type e.id=0:=hz;have g1:=hg.ty0;have g2:=hg.ty1;have g3:=hg.id1;have g4:=hg.id2;obtain⟨e1,e2⟩:=(A5P o_ o_ o_ (by unfold I64; omega)).1 hz;refine⟨e1,e2,?_⟩;have:=hg.len;rw[e1] at this;have hfl:D7 (A6 l S).types e.type=ty.fields:=by simp[D7,A6,hty]
 rw[this,hfl]
omit hfr hok hR in
theorem C0X{o:H0}(ho:o∈S){I:Nat}{b:Bx}(h:(I,b)∈A0a o.t.cells o.is):o.c≠I:=λe=>by
 rw[d0,xh] at hnd;obtain⟨i,hi⟩:=yp.1 ho;have hs:=A3Z hi;have h2:=hnd.2;rw[hs,A1l,A5N,wh,wh] at h2;have h3:=h2.2.1.1;rw[nmO,H0.bxs,yj,xh] at h3;exact h3.1 (e▸zw.2 ⟨_,h,rfl⟩)
theorem B0J(h:A2L (A6 l S) e≠0):A2 prog 126 [.agg [.sl (l.map I7),.bsl T 0 S.length],S7 e] (trB T S) id (.tup [eS0,.int .i64 (A2L (A6 l S) e)]) []:=by
 obtain⟨q1,q2,q3,q4⟩:=A5R hnd hfr hok hR;have hE0:A2L (A6 l S) e=if x5 l e≠0 then x5 l e else doE (A6 l S) e:=rfl
 rw[hE0] at h ⊢;by_cases h0:x5 l e≠0
 ·rw[zj h0];exact (C0M l e T S.length id o_ h0).more λq hq=>by cases hq
 rw[zf h0] at h ⊢;obtain⟨hf0,a1,a2,a3,a4,a5,a6⟩:=A0F (by omega:x5 l e=0);have hty:e.type.toNat<l.length:=by omega
 obtain⟨ty,htya⟩:∃ty,l[e.type.toNat]?=some ty:=⟨_,zc hty⟩;have hfl:D7 l e.type=ty.fields:=by simp[D7,htya]
 have hf6:ty.fields.length<=6:=q3 ty (zg htya);have hds:doE (A6 l S) e=doE (A6 l S) e:=rfl;have hdo:∀D id,(∀q∈trB T S,q.1≠D)->A2 prog 195 [.ptr D 0 0] ((D,S2 l (.bsl T 0 S.length) e 0)::trB T S) id (.int .i64 (doE (A6 l S) e)) [(D,some (S2 l (.bsl T 0 S.length) e (I0 (A6 l S) e)))]:=λD id hD=>by
  have d1:D≠T:=λe=>hD _ (za ..) e.symm;have dr:∀q∈I4 S,q.1≠D:=λq hq=>hD q (zb _ hq);have hnd':=hnd;rw[d0,xh] at hnd';have dT:∀q∈I4 S,q.1≠T:=λq hq e=>hnd'.1 (e▸A6S hq);have hm2:∀q∈[(D,S2 l (.bsl T 0 S.length) e 0),(T,P5 S)],q∈(D,S2 l (.bsl T 0 S.length) e 0)::trB T S:=λq hq=>by
   simp only[zh,yv,or_false] at hq;rcases hq with rfl|rfl
   ·exact za ..
   ·exact zb _ (za ..)
  have hll:(A6 l S).things.length=S.length:=xj ..;by_cases k1:e.kind=1
  ·have hE:doE (A6 l S) e=if A3Y (A6 l S) e=true then 6 else if S.length=12 then 2 else 0:=(by unfold doE; rw[zj k1,hll]);rw[hE] at h ⊢;refine (C0J l S e 0 D T id _ ?_ o_ d1).more hm2;by_cases b:A3Y (A6 l S) e=true
   ·exact .inl ⟨k1,b,zj b⟩
   ·rw[zf b] at h ⊢;by_cases b2:S.length=12
    ·exact .inr (.inl ⟨k1,eq_false_of_ne_true b,b2,zj b2⟩)
    ·rw[zf b2] at h; exact (h rfl).elim
  ·by_cases b:A3Y (A6 l S) e=false
   ·have hE:doE (A6 l S) e=5:=(by unfold doE; rw[zf k1,zj b]);rw[hE];exact (C0J l S e 0 D T id _ (.inr (.inr ⟨k1,b,rfl⟩)) o_ d1).more hm2
   ·have b':A3Y (A6 l S) e=true:=(v_ b);by_cases k2:e.kind=2
    ·have hE:doE (A6 l S) e=if T7 (U4 l e) l (S.map H0.t)=false then 4 else 0:=(by unfold doE; rw[zf k1,zf b,zj k2]; rfl);rw[hE] at h ⊢;by_cases m:T7 (U4 l e) l (S.map H0.t)=false
     ·rw[zj m];exact C0L l S e 0 D T id k2 b' hok o_ o_ d1 hnd'.2 dr dT q4 m
     ·rw[zf m] at h; exact (h rfl).elim
    ·have hE:doE (A6 l S) e=chE (A6 l S) e:=(by unfold doE; rw[zf k1,zf b,zf k2]);rw[hE] at h ⊢;have hlt:=B1O b';obtain⟨o,ho⟩:∃o,S[I0 (A6 l S) e]?=some o:=⟨_,zc (hll▸hlt)⟩;have hoS:=zg ho;have hot:=q4 o.t (zw.2 ⟨o,hoS,rfl⟩);have hlen:=(B0I hnd hfr hok hR o_ o_ b' ho htya).2.2;have hbx:∀q∈o.bxs,q∈I4 S:=λq hq=>we.2 ⟨o,hoS,hq⟩;have dc:o.c≠D/\o.c≠T:=⟨dr _ (hbx _ (za ..)),dT _ (hbx _ (za ..))⟩;have his:=(hok o hoS).len;have hm3:∀q∈[(D,S2 l (.bsl T 0 S.length) e 0),(T,P5 S),(o.c,cBn o)],q∈(D,S2 l (.bsl T 0 S.length) e 0)::trB T S:=λq hq=>by
      simp only[zh,yv,or_false] at hq;rcases hq with rfl|rfl|rfl
      ·exact za ..
      ·exact zb _ (za ..)
      ·exact zb _ (zb _ (hbx _ (za ..)))
     have k3:3<=e.kind:=o_;have fin5:A5Q (A6 l S) e=none->A2 prog 195 [.ptr D 0 0] ((D,S2 l (.bsl T 0 S.length) e 0)::trB T S) id (.int .i64 (chE (A6 l S) e)) [(D,some (S2 l (.bsl T 0 S.length) e (I0 (A6 l S) e)))]:=λhfd=>by
      have hw:chE (A6 l S) e=5:=(by unfold chE; rw[hfd]);rw[hw];have hfr:v8 ty e o.c = .tup [.agg [.str [],.int .i64 0,.str []],.nilp,.int .i64 5]:=by
       unfold A5Q at hfd;unfold v8;by_cases h5:e.field<0
       ·rw[zj h5]
       ·rw[zf h5] at hfd ⊢;have hfd:(D7 l e.type)[e.field.toNat]?=none:=hfd;rw[hfl] at hfd;rw[hfd]
      exact (B1N l S e 0 D T o.c id (List.zipWith L9 o.t.cells o.is) 5 k3 b' o_ d1 dc.1.symm dc.2.symm λid=>A8d l S e (I0 (A6 l S) e) o ty D T id _ 5 o_ ⟨_,_,_,rfl⟩ hfr htya a1 ho hlen his o_ d1 dc.1.symm dc.2.symm).more hm3
     cases hfd:A5Q (A6 l S) e with
     | none=>exact fin5 hfd
     | some f =>
      clear fin5;have hfd':=hfd;unfold A5Q at hfd;by_cases h5:e.field<0
      ·rw[zj h5] at hfd; cases hfd
      rw[zf h5] at hfd;have hfd:(D7 l e.type)[e.field.toNat]?=some f:=hfd;rw[hfl] at hfd;have hkl:e.field.toNat<ty.fields.length:=(ze.1 hfd).1;obtain⟨cl,hcl⟩:∃cl,o.t.cells[e.field.toNat]?=some cl:=⟨_,zc o_⟩;obtain⟨io,hio⟩:∃io,o.is[e.field.toNat]?=some io:=⟨_,zc o_⟩;have hclo:B4y (A6 l S) e=some cl:=by
       unfold B4y;have:(A6 l S).things[I0 (A6 l S) e]?=some o.t:=by simp only[A6] at ho ⊢; rw[ym,ho]; rfl
       rw[this];exact hcl
      have hchE:chE (A6 l S) e=if M2 e.kind f=true then X6 (A6 l S) f cl e else 7:=(by unfold chE; rw[hfd',hclo]);rw[hchE] at h ⊢;by_cases hkf:M2 e.kind f=true
      ·rw[zj hkf] at h ⊢;have hc8:cl.ids.length<=1000:=(by have:=hot.2.2.2.2 cl (zg hcl); omega);cases io with
       | none =>
        have hn:=(hok o hoS).nil _ _ hcl hio;have hW:∀id,R5 (A6 l S) f cl e o.c e.field.toNat id (List.zipWith L9 o.t.cells o.is) none=[]:=λid=>by unfold R5; rw[zj h]
        refine (B1N l S e 0 D T o.c id (List.zipWith L9 o.t.cells o.is) _ k3 b' o_ d1 dc.1.symm dc.2.symm λid=>?_).more hm3;have:=A3W l S e (I0 (A6 l S) e) o ty f cl D T id k3 a6 o_ hfd hkf hcl hio htya a1 ho hlen his hn o_ o_ o_ hc8 d1 dc.1.symm dc.2.symm;rw[hW] at this;exact this
       | some I =>
        have hIm:(I,iBx cl)∈o.bxs:=zb _ (A5M _ hcl hio _ (za ..));have hIr:=hbx _ hIm;have hW:∀id,R5 (A6 l S) f cl e o.c e.field.toNat id (List.zipWith L9 o.t.cells o.is) (some I)=[]:=λid=>by unfold R5; rw[zj h]
        have dI:D≠I/\T≠I/\o.c≠I:=⟨λe=>dr _ hIr e.symm,λe=>dT _ hIr e.symm,C0X hnd hoS (A5M _ hcl hio _ (za ..))⟩;refine (C0U l S e 0 D T o.c id (List.zipWith L9 o.t.cells o.is) _ I cl.ids dI.1 dI.2.1 dI.2.2 k3 b' o_ d1 dc.1.symm dc.2.symm λid=>?_).more λq hq=>?_
        ·have:=A1k l S e (I0 (A6 l S) e) o ty f cl I D T id k3 a6 o_ hfd hkf hcl hio htya a1 ho hlen his o_ o_ o_ hc8 d1 dc.1.symm dc.2.symm dI.1 dI.2.1 dI.2.2;rw[hW] at this;exact this
        ·simp only[zh,yv,or_false] at hq;rcases hq with rfl|rfl|rfl|rfl
         ·exact za ..
         ·exact zb _ (za ..)
         ·exact zb _ (zb _ (hbx _ (za ..)))
         ·exact zb _ (zb _ hIr)
      ·rw[zf hkf];have hfr:v8 ty e o.c = .tup [T5 f,.nilp,.int .i64 7]:=(by unfold v8; rw[zf h5,hfd]; simp only; rw[zf hkf]);exact (B1N l S e 0 D T o.c id (List.zipWith L9 o.t.cells o.is) 7 k3 b' o_ d1 dc.1.symm dc.2.symm λid=>A8d l S e (I0 (A6 l S) e) o ty D T id _ 7 o_ ⟨_,_,_,rfl⟩ hfr htya a1 ho hlen his o_ d1 dc.1.symm dc.2.symm).more hm3
 exact C0R l S e T id _ _ (trB T S) (by rw[B83]; exact hnd) h o_ hf0 a1 a2 a3 a4 hdo
end
structure B3L(l:List Ty)(S:List H0)(T:Nat)(e:Ev)(id:Nat)(T':Nat)(S':List H0)(wr:List (Nat×Option Bx)):Prop where
 fn:A2 Tryz.prog 126 [.agg [.sl (l.map I7),.bsl T 0 S.length],S7 e] (trB T S) id (.tup [.agg [.sl (l.map I7),.bsl T' 0 S'.length],.int .i64 0]) wr
 tree:A6T id T S wr T' S'
 st:A6 l S'=A35 (A6 l S) e
section
variable {l:List Ty} {S:List H0} {T:Nat} {e:Ev} {id:Nat} (hnd:(d0 T S).Nodup) (hfr:∀z∈d0 T S,z<id\/id+1024<=z) (hok:∀o∈S,o.Ok) (hR:StR (A6 l S))
include hnd hfr hok hR
omit hnd hfr hok hR in
theorem A2l(h:A2L (A6 l S) e=0):x5 l e=0/\doE (A6 l S) e=0:=by
 have hE0:A2L (A6 l S) e=if x5 l e≠0 then x5 l e else doE (A6 l S) e:=rfl
 rw[hE0] at h;by_cases h0:x5 l e=0
 ·rw[zf (t_ h0)] at h; exact⟨h0,h⟩
 ·rw[zj h0] at h; exact (h0 h).elim
theorem C0Y(k1:e.kind=1)(h:A2L (A6 l S) e=0):∃T' S' wr,B3L l S T e id T' S' wr:=by
 obtain⟨q1,q2,q3,q4⟩:=A5R hnd hfr hok hR;obtain⟨h0,h⟩:=A2l h;obtain⟨hf0,a1,a2,a3,a4,a5,a6⟩:=A0F h0;have hty:e.type.toNat<l.length:=by omega
 obtain⟨ty,htya⟩:∃ty,l[e.type.toNat]?=some ty:=⟨_,zc hty⟩;have hfl:D7 l e.type=ty.fields:=by simp[D7,htya]
 have hf6:ty.fields.length<=6:=q3 ty (zg htya);have hll:(A6 l S).things.length=S.length:=xj ..;have hE:doE (A6 l S) e=if A3Y (A6 l S) e=true then 6 else if S.length=12 then 2 else 0:=by unfold doE; rw[zj k1,hll]
 rw[hE] at h;by_cases b:A3Y (A6 l S) e=true
 ·rw[zj b] at h; omega
 rw[zf b] at h;by_cases b2:S.length=12
 ·rw[zj b2] at h; omega
 have hi:I0 (A6 l S) e<=S.length:=hll▸B6I ..;have hii:C3 (S.map H0.t) e.type e.id=I0 (A6 l S) e:=rfl;have hbf:F4 (S.map H0.t) e.type e.id=false:=eq_false_of_ne_true b;have ft:=B85 (id:=id) (T:=T) (A:=S.take (I0 (A6 l S) e)) (B:=S.drop (I0 (A6 l S) e)) e ty.fields.length (by rw[xf]; exact hnd) (by rw[xf]; exact hfr) (by rw[xf]; exact hok);rw[xf] at ft;have hlen:(S.take (I0 (A6 l S) e)++A5O e ty.fields.length id::S.drop (I0 (A6 l S) e)).length=S.length+1:=by simp; omega
 have hxs:P5 (S.take (I0 (A6 l S) e)++A5O e ty.fields.length id::S.drop (I0 (A6 l S) e))=⟨(S.map W5).take (I0 (A6 l S) e)++.agg [.int .i64 e.type,.int .i64 e.id,.bsl (id+1) 0 ty.fields.length]::(S.map W5).drop (I0 (A6 l S) e),zT,false,false⟩:=by
  simp[P5,yy,rq,W5,A5O]
 refine⟨id,_,_,⟨?_,ft,?_⟩⟩
 ·rw[hlen,hxs];refine (C0N l S e T id (I0 (A6 l S) e) ty.fields.length (I0 (A6 l S) e) o_ hf0 a1 a2 a3 a4 λD id hD=>?_).more λq hq=>by
   simp only[zh,yv,or_false] at hq;subst hq;exact za ..
  have:=C3I l S e 0 ty D T id k1 hbf b2 htya a1 o_ o_ (λe=>hD _ (za ..) e.symm);rw[hii] at this;exact this
 ·unfold A35;rw[zj k1];simp[A6,A5O,yy,rq,hfl]
theorem C0Z(k2:e.kind=2)(h:A2L (A6 l S) e=0):∃T' S' wr,B3L l S T e id T' S' wr:=by
 obtain⟨q1,q2,q3,q4⟩:=A5R hnd hfr hok hR;obtain⟨h0,h⟩:=A2l h;obtain⟨hf0,a1,a2,a3,a4,a5,a6⟩:=A0F h0;have hll:(A6 l S).things.length=S.length:=xj ..;have k1:e.kind≠1:=by omega
 by_cases b:A3Y (A6 l S) e=false
 ·have hE:doE (A6 l S) e=5:=by unfold doE; rw[zf k1,zj b]
  omega
 have b':A3Y (A6 l S) e=true:=by simpa using b
 have hE:doE (A6 l S) e=if T7 (U4 l e) l (S.map H0.t)=false then 4 else 0:=by unfold doE; rw[zf k1,zf b,zj k2]; rfl
 rw[hE] at h;by_cases m:T7 (U4 l e) l (S.map H0.t)=false
 ·rw[zj m] at h; omega
 have m':T7 (U4 l e) l (S.map H0.t)=true:=by simpa using m
 have hlt:I0 (A6 l S) e<S.length:=hll▸B1O b';obtain⟨o,ho⟩:∃o,S[I0 (A6 l S) e]?=some o:=⟨_,zc hlt⟩;have hs:=A3Z ho;have hii:C3 (S.map H0.t) e.type e.id=I0 (A6 l S) e:=rfl;have hnd':=hnd;rw[d0,xh] at hnd';have dT:∀q∈I4 S,q.1≠T:=λq hq e=>hnd'.1 (e▸A6S hq);have ft:=B86 (id:=id) (T:=T) (A:=S.take (I0 (A6 l S) e)) (B:=S.drop (I0 (A6 l S) e+1)) (o:=o) (by rw[←hs]; exact hnd) (by rw[←hs]; exact hfr) (by rw[←hs]; exact hok);rw[←hs] at ft;have hlen:(S.take (I0 (A6 l S) e)++S.drop (I0 (A6 l S) e+1)).length=S.length - 1:=by simp; omega
 have hxs:P5 (S.take (I0 (A6 l S) e)++S.drop (I0 (A6 l S) e+1))=⟨(S.map W5).take (I0 (A6 l S) e)++(S.map W5).drop (I0 (A6 l S) e+1),zT,false,false⟩:=by
  simp[P5,yy,rq]
 refine⟨id,_,_,⟨?_,ft,?_⟩⟩
 ·rw[hlen,hxs];refine C0S l S e T id (I0 (A6 l S) e) (I0 (A6 l S) e) (I4 S) hnd'.2 dT o_ hf0 a1 a2 a3 a4 λD id hD=>?_;have:=C3J l S e 0 D T id k2 b' hok o_ o_ (λe=>hD _ (za ..) e.symm) hnd'.2 (λq hq=>hD q (zb _ hq)) dT q4 m';rw[hii] at this;exact this
 ·unfold A35;rw[zf k1,zj k2];simp[A6,yy,rq]
end
def B6J(c:Cl)(i:Option Nat):∀(cs:List Cl) (is:List (Option Nat)) (k:Nat),List.zipWith L9 (cs.set k c) (is.set k i)=(List.zipWith L9 cs is).set k (L9 c i)
 | [],_,_=>by simp
 | _::_,[],_=>by simp
 | _::cs,_::is,0=>by simp
 | _::cs,_::is,k+1=>by simp[B6J c i cs is k]
def C0a{α:Type}{l:List α}{k:Nat}{x:α}(h:l[k]?=some x):l.set k x=l:=by
 obtain⟨h1,rfl⟩:=ze.1 h;exact List.set_getElem_self h1
def B0K{c:Cl}{i:Option Nat}:∀{cs:List Cl} {is:List (Option Nat)} {k:Nat},cs[k]?=some c->is[k]?=some i->∃X Y,A0a cs is=X++(idB c i++Y)/\∀c' i',A0a (cs.set k c') (is.set k i')=X++(idB c' i'++Y)
 | [],_,_,h,_=>by simp at h
 | _::_,[],_,_,h=>by simp at h
 | c0::cs,i0::is,0,h1,h2=>by
  simp only[yt,zd] at h1 h2;subst h1 h2;exact⟨[],A0a cs is,rfl,λ_ _=>rfl⟩
 | c0::cs,i0::is,k+1,h1,h2=>by
  simp only[xw] at h1 h2;obtain⟨X,Y,e1,e2⟩:=B0K h1 h2;refine⟨idB c0 i0++X,Y,?_,λc' i'=>?_⟩
  ·rw[A0a,e1,xo]
  ·rw[List.set_cons_succ,List.set_cons_succ,A0a,e2,xo]
def A6U(o:H0)(k:Nat)(c:Cl)(io:Option Nat):H0:=⟨⟨o.t.type,o.t.id,o.t.cells.set k c⟩,o.c,o.is.set k io⟩
def B6K{o:H0}{k:Nat}{c:Cl}{io:Option Nat}(h:o.Ok)(hn:io=none->c.ids=[]):(A6U o k c io).Ok:=by
 refine⟨by simpa [A6U] using h.len,λj d h1 h2=>?_⟩;simp only[A6U] at h1 h2;rw[sb] at h1 h2;by_cases hj:k=j
 ·subst hj;rw[zj rfl] at h1 h2;split at h1
  ·split at h2
   ·injection h1 with h1; injection h2 with h2; subst h1; exact hn h2
   ·cases h2
  ·cases h1
 ·rw[zf hj] at h1 h2;exact h.nil _ _ h1 h2
def B3M(o:H0)(k:Nat)(c:Cl)(io:Option Nat):W5 (A6U o k c io)=W5 o:=by simp[W5,A6U]
def B3N(o:H0)(k:Nat)(c:Cl)(io:Option Nat):cBn (A6U o k c io)=⟨(List.zipWith L9 o.t.cells o.is).set k (L9 c io),zC,false,false⟩:=by
 simp only[cBn,A6U,B6J]
section
variable {l:List Ty} {S:List H0} {T:Nat} {e:Ev} {id:Nat} (hnd:(d0 T S).Nodup) (hfr:∀z∈d0 T S,z<id\/id+1024<=z) (hok:∀o∈S,o.Ok) (hR:StR (A6 l S))
theorem B6L{i k:Nat}{o:H0}(ho:S[i]?=some o){c:Cl}{io:Option Nat}{wr:List (Nat×Option Bx)}(hs:A35 (A6 l S) e=A7I (A6 l S) i k c)
  (hf:A2 prog 126 [.agg [.sl (l.map I7),.bsl T 0 S.length],S7 e] (trB T S) id (.tup [.agg [.sl (l.map I7),.bsl T 0 S.length],.int .i64 0]) wr)
  (ht:A6T id T (S.take i++o::S.drop (i+1)) wr T (S.take i++A6U o k c io::S.drop (i+1))):∃T' S' wr,B3L l S T e id T' S' wr:=by
 rw[←A3Z ho] at ht;have hi:=(ze.1 ho).1;have hset:S.set i (A6U o k c io)=S.take i++A6U o k c io::S.drop (i+1):=by rw[List.set_eq_take_append_cons_drop,zj hi]
 rw[←hset] at ht;refine⟨T,_,wr,⟨?_,ht,?_⟩⟩
 ·rw[List.length_set]; exact hf
 ·rw[hs];unfold A7I;have:(A6 l S).things[i]?=some o.t:=by simp only[A6]; rw[ym,ho]; rfl
  rw[this];simp only[A6,so];rfl
include hnd hfr hok hR
theorem C3O(k3:3<=e.kind)(h:A2L (A6 l S) e=0):∃T' S' wr,B3L l S T e id T' S' wr:=by
 obtain⟨q1,q2,q3,q4⟩:=A5R hnd hfr hok hR;obtain⟨h0,h⟩:=A2l h;obtain⟨hf0,a1,a2,a3,a4,a5,a6⟩:=A0F h0;have hty:e.type.toNat<l.length:=by omega
 obtain⟨ty,htya⟩:∃ty,l[e.type.toNat]?=some ty:=⟨_,zc hty⟩;have hfl:D7 l e.type=ty.fields:=by simp[D7,htya]
 have hf6:ty.fields.length<=6:=q3 ty (zg htya);have hll:(A6 l S).things.length=S.length:=xj ..;have k1:e.kind≠1:=by omega
 have k2:e.kind≠2:=by omega
 by_cases b:A3Y (A6 l S) e=false
 ·have hE:doE (A6 l S) e=5:=by unfold doE; rw[zf k1,zj b]
  omega
 have b':A3Y (A6 l S) e=true:=by simpa using b
 have hE:doE (A6 l S) e=chE (A6 l S) e:=by unfold doE; rw[zf k1,zf b,zf k2]
 rw[hE] at h;have hlt:I0 (A6 l S) e<S.length:=hll▸B1O b';obtain⟨o,ho⟩:∃o,S[I0 (A6 l S) e]?=some o:=⟨_,zc hlt⟩;have hs:=A3Z ho;have hoS:=zg ho;have hot:=q4 o.t (zw.2 ⟨o,hoS,rfl⟩);have hlen:=(B0I hnd hfr hok hR o_ o_ b' ho htya).2.2;have hbx:∀q∈o.bxs,q∈I4 S:=λq hq=>we.2 ⟨o,hoS,hq⟩;have hnd':=hnd;rw[d0,xh] at hnd';have dT:∀q∈I4 S,q.1≠T:=λq hq e=>hnd'.1 (e▸A6S hq);have dc:T≠o.c:=λe=>dT _ (hbx _ (za ..)) e.symm;have his:=(hok o hoS).len;have htS:(A6 l S).things[I0 (A6 l S) e]?=some o.t:=by simp only[A6] at ho ⊢; rw[ym,ho]; rfl
 cases hfd:A5Q (A6 l S) e with
 | none =>
  have:chE (A6 l S) e=5:=by unfold chE; rw[hfd]
  omega
 | some f =>
 have hfd':=hfd;unfold A5Q at hfd;by_cases h5:e.field<0
 ·rw[zj h5] at hfd; cases hfd
 rw[zf h5] at hfd;have hfd:(D7 l e.type)[e.field.toNat]?=some f:=hfd;rw[hfl] at hfd;have hkl:e.field.toNat<ty.fields.length:=(ze.1 hfd).1;obtain⟨cl,hcl⟩:∃cl,o.t.cells[e.field.toNat]?=some cl:=⟨_,zc o_⟩;obtain⟨io,hio⟩:∃io,o.is[e.field.toNat]?=some io:=⟨_,zc o_⟩;have hclo:B4y (A6 l S) e=some cl:=by
  unfold B4y;rw[htS];exact hcl
 have hchE:chE (A6 l S) e=if M2 e.kind f=true then X6 (A6 l S) f cl e else 7:=by unfold chE; rw[hfd',hclo]
 rw[hchE] at h;by_cases hkf:M2 e.kind f=true
 case neg=>rw[zf hkf] at h; omega
 rw[zj hkf] at h;have hrs:A35 (A6 l S) e=A7I (A6 l S) (I0 (A6 l S) e) e.field.toNat (z7 f cl e):=by
  unfold A35;rw[zf k1,zf k2,hfd',hclo]
 have hc8:cl.ids.length<=1000:=by have:=hot.2.2.2.2 cl (zg hcl); omega
 have hx:=A7Z hcl hio;obtain⟨X,Y,hX1,hX2⟩:=B0K hcl hio;have hn:io=none->cl.ids=[]:=λhh=>(hok o hoS).nil _ _ hcl (hh▸hio);have hnd2:(d0 T (S.take (I0 (A6 l S) e)++o::S.drop (I0 (A6 l S) e+1))).Nodup:=by rw[←hs]; exact hnd
 have hfr2:∀z∈d0 T (S.take (I0 (A6 l S) e)++o::S.drop (I0 (A6 l S) e+1)),z<id\/id+1024<=z:=by rw[←hs]; exact hfr
 have hok2:∀x∈S.take (I0 (A6 l S) e)++o::S.drop (I0 (A6 l S) e+1),x.Ok:=by rw[←hs]; exact hok
 have hm2:∀q∈[(T,P5 S),(o.c,cBn o)],q∈trB T S:=λq hq=>by
  simp only[zh,yv,or_false] at hq;rcases hq with rfl|rfl
  ·exact za ..
  ·exact zb _ (hbx _ (za ..))
 have hII:∀I,io=some I->(∀D,(∀q∈[(T,P5 S),(o.c,cBn o),(I,iBx cl)],q.1≠D)->D≠I)/\T≠I/\o.c≠I/\∀q∈[(T,P5 S),(o.c,cBn o),(I,iBx cl)],q∈trB T S:=λI hI=>by
  subst hI;have hIm:(I,iBx cl)∈A0a o.t.cells o.is:=A5M _ hcl hio _ (za ..);have hIr:=hbx _ (zb _ hIm);refine⟨λD hD e=>hD (I,iBx cl) s_ e.symm,λe=>dT _ hIr e.symm,C0X hnd hoS hIm,λq hq=>?_⟩;simp only[zh,yv,or_false] at hq;rcases hq with rfl|rfl|rfl
  ·exact za ..
  ·exact zb _ (hbx _ (za ..))
  ·exact zb _ hIr
 by_cases k4:e.kind=3\/e.kind=4
 ·obtain⟨n',t',hc'⟩:∃n t,z7 f cl e=⟨n,t,cl.ids⟩:=by
   unfold z7;rcases k4 with k|k
   ·exact⟨e.n,cl.text,by rw[zj k]⟩
   ·exact⟨cl.n,e.text,by rw[zf o_,zj k]⟩
  rw[hc'] at hrs;have hW:∀id,R5 (A6 l S) f cl e o.c e.field.toNat id (List.zipWith L9 o.t.cells o.is) io=[(o.c,some ⟨(List.zipWith L9 o.t.cells o.is).set e.field.toNat (L9 ⟨n',t',cl.ids⟩ io),zC,false,false⟩)]:=λid=>by unfold R5; rw[zf (t_ h),zj k4,hc']
  have hwr:[(o.c,some (cBn (A6U o e.field.toNat ⟨n',t',cl.ids⟩ io)))]=[(o.c,some (⟨(List.zipWith L9 o.t.cells o.is).set e.field.toNat (L9 ⟨n',t',cl.ids⟩ io),zC,false,false⟩:Bx))]:=by rw[B3N]
  refine B6L (io:=io) ho hrs (wr:=[(o.c,some (cBn (A6U o e.field.toNat ⟨n',t',cl.ids⟩ io)))]) ?_ ?_
  ·rw[hwr];cases io with
   | none =>
    refine (C0O l S e T id o.c (List.zipWith L9 o.t.cells o.is) e.field.toNat _ _ _ hx n' t' dc (I0 (A6 l S) e) o_ hf0 a1 a2 a3 a4 λD id hD=>?_).more hm2;have d1:D≠T:=λe=>hD _ (za ..) e.symm;have d2:D≠o.c:=λe=>hD _ (zb _ (za ..)) e.symm;refine C3K l S e 0 D T o.c id (List.zipWith L9 o.t.cells o.is) e.field.toNat _ _ _ hx n' t' k3 b' o_ d1 d2 dc λid=>?_;have:=A3W l S e (I0 (A6 l S) e) o ty f cl D T id k3 a6 o_ hfd hkf hcl hio htya a1 ho hlen his (hn rfl) o_ o_ o_ hc8 d1 d2 dc;rw[hW,h] at this;exact this
   | some I =>
    obtain⟨i1,i2,i3,i4⟩:=hII I rfl;refine (B89 l S e T id o.c (List.zipWith L9 o.t.cells o.is) e.field.toNat _ _ _ hx n' t' I cl.ids dc i2 i3 (I0 (A6 l S) e) o_ hf0 a1 a2 a3 a4 λD id hD=>?_).more i4;have d1:D≠T:=λe=>hD _ (za ..) e.symm;have d2:D≠o.c:=λe=>hD _ (zb _ (za ..)) e.symm;have d4:=i1 D hD;refine C0V l S e 0 D T o.c id (List.zipWith L9 o.t.cells o.is) e.field.toNat _ _ _ hx n' t' I cl.ids d4 i2 i3 k3 b' o_ d1 d2 dc λid=>?_;have:=A1k l S e (I0 (A6 l S) e) o ty f cl I D T id k3 a6 o_ hfd hkf hcl hio htya a1 ho hlen his o_ o_ o_ hc8 d1 d2 dc d4 i2 i3;rw[hW,h] at this;exact this
  ·refine B87 (X:=A0a o.t.cells o.is) rfl ?_ (B3M ..) (B6K (hok o hoS) hn) hnd2 hok2;show (o.c,_)::A0a (o.t.cells.set e.field.toNat ⟨n',t',cl.ids⟩) (o.is.set e.field.toNat io)=_;rw[hX2,hX1];cases io<;>rfl
 ·obtain⟨n',t',ys,hc'⟩:∃n t ys,z7 f cl e=⟨n,t,ys⟩:=⟨_,_,_,rfl⟩;rw[hc'] at hrs;have hW:∀id,R5 (A6 l S) f cl e o.c e.field.toNat id (List.zipWith L9 o.t.cells o.is) io=(if e.kind=5/\f.kind=3 then [] else A31 io)++[(o.c,some ⟨(List.zipWith L9 o.t.cells o.is).set e.field.toNat (L9 ⟨n',t',ys⟩ (some id)),zC,false,false⟩),(id,some ⟨ys.map eI,.int .i64 0,false,false⟩)]:=λid=>by unfold R5; rw[zf (t_ h),zf k4,hc']
  refine B6L (io:=some id) ho hrs (wr:=(if e.kind=5/\f.kind=3 then [] else A31 io)++[(o.c,some (cBn (A6U o e.field.toNat ⟨n',t',ys⟩ (some id)))),(id,some ⟨ys.map eI,.int .i64 0,false,false⟩)]) ?_ ?_
  ·rw[B3N];cases io with
   | none =>
    have hg:(if e.kind=5/\f.kind=3 then [] else A31 none)=[]:=(by split<;>rfl);rw[hg,xv];refine (C0P l S e T id o.c (List.zipWith L9 o.t.cells o.is) e.field.toNat n' t' ys dc (I0 (A6 l S) e) o_ hf0 a1 a2 a3 a4 λD id hD=>?_).more hm2;have d1:D≠T:=λe=>hD _ (za ..) e.symm;have d2:D≠o.c:=λe=>hD _ (zb _ (za ..)) e.symm;refine C3L l S e 0 D T o.c id (List.zipWith L9 o.t.cells o.is) e.field.toNat n' t' ys k3 b' o_ d1 d2 dc λid=>?_;have:=A3W l S e (I0 (A6 l S) e) o ty f cl D T id k3 a6 o_ hfd hkf hcl hio htya a1 ho hlen his (hn rfl) o_ o_ o_ hc8 d1 d2 dc;rw[hW,h,hg] at this;exact this
   | some I =>
    obtain⟨i1,i2,i3,i4⟩:=hII I rfl;by_cases k5:e.kind=5/\f.kind=3
    ·rw[zj k5,xv];refine (B8A l S e T id o.c (List.zipWith L9 o.t.cells o.is) e.field.toNat n' t' ys I cl.ids dc i2 i3 (I0 (A6 l S) e) o_ hf0 a1 a2 a3 a4 λD id hD=>?_).more i4;have d1:D≠T:=λe=>hD _ (za ..) e.symm;have d2:D≠o.c:=λe=>hD _ (zb _ (za ..)) e.symm;have d4:=i1 D hD;refine C0W l S e 0 D T o.c id (List.zipWith L9 o.t.cells o.is) e.field.toNat n' t' ys I cl.ids d4 i2 i3 k3 b' o_ d1 d2 dc λid=>?_;have:=A1k l S e (I0 (A6 l S) e) o ty f cl I D T id k3 a6 o_ hfd hkf hcl hio htya a1 ho hlen his o_ o_ o_ hc8 d1 d2 dc d4 i2 i3;rw[hW,h,zj k5] at this;exact this
    ·rw[zf k5];refine (C0Q l S e T id o.c (List.zipWith L9 o.t.cells o.is) e.field.toNat n' t' ys I cl.ids dc i2 i3 (I0 (A6 l S) e) o_ hf0 a1 a2 a3 a4 λD id hD=>?_).more i4;have d1:D≠T:=λe=>hD _ (za ..) e.symm;have d2:D≠o.c:=λe=>hD _ (zb _ (za ..)) e.symm;have d4:=i1 D hD;refine C3M l S e 0 D T o.c id (List.zipWith L9 o.t.cells o.is) e.field.toNat n' t' ys I cl.ids d4 i2 i3 k3 b' o_ d1 d2 dc λid=>?_;have:=A1k l S e (I0 (A6 l S) e) o ty f cl I D T id k3 a6 o_ hfd hkf hcl hio htya a1 ho hlen his o_ o_ o_ hc8 d1 d2 dc d4 i2 i3;rw[hW,h,zf k5] at this;exact this
  ·refine B88 (X:=X) (I:=idB cl io) (Y:=Y) (b:=⟨ys.map eI,.int .i64 0,false,false⟩) ?_ ?_ ?_ (B3M ..) (B6K (hok o hoS) s_) hnd2 hfr2 hok2
   ·show (o.c,_)::A0a o.t.cells o.is=_;rw[hX1]
   ·show (o.c,_)::A0a (o.t.cells.set e.field.toNat ⟨n',t',ys⟩) (o.is.set e.field.toNat (some id))=_;rw[hX2];rfl
   ·intro p hp;split at hp
    ·cases hp
    ·cases io with
     | none=>cases hp
     | some I=>simp only[A31,wn] at hp; subst hp; simp[idB]
theorem B3O(h:A2L (A6 l S) e=0):∃T' S' wr,B3L l S T e id T' S' wr:=by
 have h6:=(A0F (A2l h).1).2.2.2.2.2.1;by_cases k1:e.kind=1
 ·exact C0Y hnd hfr hok hR k1 h
 by_cases k2:e.kind=2
 ·exact C0Z hnd hfr hok hR k2 h
 ·exact C3O hnd hfr hok hR o_ h
end
def A2M(b:Nat):List Cl->List (Option Nat)
 | []=>[]
 | _::cs=>some b::A2M (b+1) cs
def A10(t:Nat):Nat->List Tg->List H0
 | _,[]=>[]
 | q,x::xs=>⟨x,t+1+q,A2M (t+16+16*q) x.cells⟩::A10 t (q+1) xs
def A8f:∀{l:List Cl} {b k:Nat} {c:Cl},l[k]?=some c->(A2M b l)[k]?=some (some (b+k))
 | [],_,_,_,h=>by simp at h
 | _::_,b,0,_,_=>rfl
 | _::l,b,k+1,c,h=>by
  simp only[xw] at h;rw[A2M,xw,A8f h];congr 2; omega
def A8g:∀(l:List Cl) (b:Nat),(A2M b l).length=l.length
 | [],_=>rfl
 | _::l,b=>by simp[A2M,A8g l]
def A5S(t:Nat):∀(l:List Tg) (q:Nat),(A10 t q l).length=l.length
 | [],_=>rfl
 | _::l,q=>by simp[A10,A5S t l]
def C0b(t:Nat):∀(l:List Tg) (q:Nat),(A10 t q l).map H0.t=l
 | [],_=>rfl
 | _::l,q=>by simp[A10,C0b t l]
def B6M(t:Nat):∀(l:List Tg) (q:Nat),∀o∈A10 t q l,o.Ok
 | [],_,o,h=>by cases h
 | x::l,q,o,h=>by
  rcases zh.1 h with rfl|h
  ·refine⟨A8g ..,λk c h1 h2=>?_⟩;have h1:x.cells[k]?=some c:=h1;have h2:(A2M (t+16+16*q) x.cells)[k]?=some none:=h2;rw[A8f h1] at h2;cases h2
  ·exact B6M t l (q+1) o h
def A3a(b:Nat):∀(l:List Cl),∀z∈(A0a l (A2M b l)).map Prod.fst,b<=z/\z<b+l.length
 | [],z,h=>by cases h
 | c::l,z,h=>by
  simp only[A2M,A0a,idB,wx,yj,uf,yz,xv,zh] at h;rcases h with rfl|h
  ·simp
  ·have:=A3a (b+1) l z h;simp only[zt];omega
def A74(b:Nat):∀(l:List Cl),((A0a l (A2M b l)).map Prod.fst).Nodup
 | []=>qi
 | c::l=>by
  simp only[A2M,A0a,idB,wx,yj,uf,yz,xv,xh];refine⟨λh=>?_,A74 (b+1) l⟩;have:=A3a (b+1) l b h;omega
def A7b(t:Nat):∀(l:List Tg) (q:Nat),(∀x∈l,x.cells.length<=16)->∀z∈nmR (A10 t q l),(t+1+q<=z/\z<t+1+q+l.length)\/(t+16+16*q<=z/\z<t+16+16*(q+l.length))
 | [],_,_,z,h=>by cases h
 | x::l,q,h6,z,h=>by
  rw[A10,A5N] at h;have hx:=h6 x (za ..);simp only[zt];rcases zp.1 h with h|h
  ·rcases zh.1 h with rfl|h
   ·left; simp only; omega
   ·have h:z∈(A0a x.cells (A2M (t+16+16*q) x.cells)).map Prod.fst:=h;have:=A3a _ _ z h;omega
  ·have:=A7b t l (q+1) (λy hy=>h6 y (zb _ hy)) z h;omega
def B6N(t:Nat):∀(l:List Tg) (q:Nat),(∀x∈l,x.cells.length<=16)->q+l.length<=12->(nmR (A10 t q l)).Nodup
 | [],_,_,_=>qi
 | x::l,q,h6,h12=>by
  have hx:=h6 x (za ..);simp only[zt] at h12;rw[A10,A5N,wh];refine⟨xh.2 ⟨λh=>?_,A74 _ _⟩,B6N t l (q+1) (λy hy=>h6 y (zb _ hy)) o_,λa ha b hb=>?_⟩
  ·have h:t+1+q∈(A0a x.cells (A2M (t+16+16*q) x.cells)).map Prod.fst:=h;have:=A3a _ _ _ h;omega
  ·have hb:=A7b t l (q+1) (λy hy=>h6 y (zb _ hy)) b hb;rcases zh.1 ha with rfl|h
   ·simp only; omega
   ·have h:a∈(A0a x.cells (A2M (t+16+16*q) x.cells)).map Prod.fst:=h;have:=A3a _ _ a h;omega
def B8E(t q:Nat)(l:List Cl):Z5 t q l l.length=List.zipWith L9 l (A2M (t+16+16*q) l):=by
 have:∀k,k<=l.length->Z5 t q l k=(List.zipWith L9 l (A2M (t+16+16*q) l)).take k:=λk=>by
  induction k with
  | zero=>intro _; simp[Z5]
  | succ k ih =>
   intro h;have hc:l[k]?=some l[k]:=zc o_;rw[Z5,hc];simp only;rw[ih o_,vh,A7Z hc (A8f hc)];rfl
 rw[this _ (zy _),zm];simp[A8g]
def A8h(t:Nat):∀{l:List Tg} {q i:Nat} {x:Tg},l[i]?=some x->(A10 t q l)[i]?=some ⟨x,t+1+(q+i),A2M (t+16+16*(q+i)) x.cells⟩
 | [],_,_,_,h=>by simp at h
 | x::l,q,0,y,h=>by simp only[yt,zd] at h; subst h; rfl
 | _::l,q,i+1,y,h=>by
  simp only[xw] at h;rw[A10,xw,A8h t h];have:q+1+i=q+(i+1):=by omega
  rw[this]
def B8F(t:Nat)(l:List Tg):T8 t l l.length=(A10 t 0 l).map W5:=by
 have:∀k,k<=l.length->T8 t l k=((A10 t 0 l).map W5).take k:=λk=>by
  induction k with
  | zero=>intro _; simp[T8]
  | succ k ih =>
   intro h;have hc:l[k]?=some l[k]:=zc o_;rw[T8,hc];simp only;rw[ih o_,vh,ym,A8h t hc];simp[eTo,W5]
 rw[this _ (zy _),zm];simp[A5S]
def C3P{t q:Nat}{l:List Cl}{k m:Nat}{c:Cl}(hc:l[m]?=some c)(h:m<k):(t+16+16*q+m,some (iBx c))∈A0z t q l k:=by
 induction k with
 | zero=>omega
 | succ k ih =>
  rw[A0z];by_cases hk:m=k
  ·subst hk; rw[hc]; exact za ..
  ·have:=ih o_;split
   ·exact zb _ this
   ·exact this
def C0c{t:Nat}{l:List Tg}{i j:Nat}{x:Tg}(hx:l[j]?=some x)(h:j<i):(t+1+j,some (cBx t j x))∈Q0 t l i/\∀p∈A0z t j x.cells x.cells.length,p∈Q0 t l i:=by
 induction i with
 | zero=>omega
 | succ i ih =>
  rw[Q0];by_cases hk:j=i
  ·subst hk; rw[hx]; exact⟨za ..,λp hp=>zb _ (yw _ hp)⟩
  ·have:=ih o_;split
   ·exact⟨zb _ (yg _ this.1),λp hp=>zb _ (yg _ (this.2 p hp))⟩
   ·exact this
def B3P{b:Nat}:∀{l:List Cl} {p:Nat×Bx},p∈A0a l (A2M b l)->∃k c,l[k]?=some c/\p=(b+k,iBx c)
 | [],p,h=>by cases h
 | c::l,p,h=>by
  simp only[A2M,A0a,idB,yz,xv,zh] at h;rcases h with rfl|h
  ·exact⟨0,c,rfl,rfl⟩
  ·obtain⟨k,d,h1,rfl⟩:=B3P h;exact⟨k+1,d,h1,by rw[yq,qo 1 k]⟩
def C3Q{t:Nat}{l:List Tg}{o:H0}(h:o∈A10 t 0 l):∃i x,l[i]?=some x/\o=⟨x,t+1+i,A2M (t+16+16*i) x.cells⟩:=by
 obtain⟨i,hi⟩:=yp.1 h;have hl:i<l.length:=by have:=(ze.1 hi).1; rwa [A5S] at this
 have hx:l[i]?=some l[i]:=zc hl;rw[A8h t hx] at hi;injection hi with hi
 exact⟨i,_,hx,by rw[←hi,xe]⟩
def C5X{t:Nat}{l:List Tg}{q:Nat×Bx}(h:q∈trB t (A10 t 0 l)):(q.1,some q.2)∈(t,some (⟨T8 t l l.length,zT,false,false⟩:Bx))::Q0 t l l.length:=by
 rcases zh.1 h with rfl|h
 ·rw[B8F]; exact za ..
 ·refine zb _ ?_;obtain⟨o,ho,hq⟩:=we.1 h;obtain⟨i,x,hx,rfl⟩:=C3Q ho;have hin:=C0c (t:=t) hx (ze.1 hx).1;rcases zh.1 hq with rfl|hq
  ·have:=hin.1;rw[cBx,B8E] at this;exact this
  ·obtain⟨k,c,hc,rfl⟩:=B3P hq;exact hin.2 _ (C3P hc (ze.1 hc).1)
def C5Y{t:Nat}{l:List Tg}(h6:∀x∈l,x.cells.length<=16)(h12:l.length<=12):(d0 t (A10 t 0 l)).Nodup:=by
 refine xh.2 ⟨λh=>?_,B6N t l 0 h6 o_⟩;have:=A7b t l 0 h6 t h;omega
def C0d{t:Nat}{l:List Tg}(h6:∀x∈l,x.cells.length<=16)(h12:l.length<=12):∀z∈d0 t (A10 t 0 l),t<=z/\z<t+1000:=λz h=>by
 rcases zh.1 h with rfl|h
 ·omega
 ·have:=A7b t l 0 h6 z h;omega
def C0e(t:Nat)(s:H7):A6 s.types (A10 t 0 s.things)=s:=by simp[A6,C0b]
def C0f{s:H7}(h:fSt s=0):StR s/\Srt s.things/\T7 (λf c=>!c.ids.any λx=>!K7 s f x) s.types s.things=true:=by
 unfold fSt at h;split at h
 ·rename_i h1; exact (h1 h).elim
 ·rename_i h1;have h1:H3 s.types=0:=by omega
  split at h
  ·omega
  ·rename_i h2;split at h
   ·rename_i h3; exact (h3 h).elim
   ·rename_i h3;have h3:D0 (λi t=>A1R s i t) s.things 0=0:=o_;obtain⟨g1,g2⟩:=C5W (A5L h1) h3;refine⟨⟨A5L h1,o_,g1⟩,g2,?_⟩;split at h
    ·assumption
    ·omega
def B6O(f:Nat->Int)(n:Nat)(hm:∀k m,k<=m->m<n->f m<0->f k<0):∀a b,a<=b->b<=n->(∀k,k<a->f k<0)->(∀k,b<=k->k<n->¬f k<0)->(∀k,k<bs f a b->f k<0)/\(∀k,bs f a b<=k->k<n->¬f k<0):=λa b=>by
 fun_induction bs f a b with
 | case1 i j h hf ih =>
  intro h1 h2 h3 h4;exact ih o_ h2 (λk hk=>hm k ((i+j) / 2) o_ o_ hf) h4
 | case2 i j h hf ih =>
  intro h1 h2 h3 h4;refine ih o_ o_ h3 λk hk hkn h5=>hf (hm _ k hk hkn h5)
 | case3 i j h =>
  intro h1 h2 h3 h4;exact⟨h3,λk hk=>h4 k o_⟩
abbrev tLt(a b:Tg):Prop:=V8 a.type a.id b.type b.id=true
def Srt.pw{l:List Tg}(h:Srt l):l.Pairwise tLt:=by
 rw[vi];exactλi j hi hj hij=>h.asc i j _ _ hij (zc hi) (zc hj)
def C4V{l:List Tg}(h1:∀t∈l,0<=t.type/\t.type<=1000)(h2:∀t∈l,1<=t.id/\t.id<=999)(h:l.Pairwise tLt):Srt l:=by
 refine⟨h1,h2,λi j a b hij ha hb=>?_⟩;rw[vi] at h;obtain⟨hi,rfl⟩:=ze.1 ha;obtain⟨hj,rfl⟩:=ze.1 hb;exact h i j hi hj hij
def A5T{α:Type}{l:List α}{i:Nat}{x:α}(h:x∈l.take i):∃j,j<i/\l[j]?=some x:=by
 obtain⟨j,hj⟩:=yp.1 h;rw[yd] at hj;split at hj
 ·exact⟨j,by assumption,hj⟩
 ·cases hj
def A5U{α:Type}{l:List α}{i:Nat}{x:α}(h:x∈l.drop i):∃j,i<=j/\l[j]?=some x:=by
 obtain⟨j,hj⟩:=yp.1 h;rw[yh] at hj;exact⟨i+j,o_,hj⟩
section
variable {l:List Tg} (hl:Srt l) {kind tid:Int} (h2:0<=kind/\kind<=1000) (h4:1<=tid/\tid<=999)
include hl h2 h4
theorem Srt.part:(∀t∈l.take (C3 l kind tid),V8 t.type t.id kind tid=true)/\(∀t∈l.drop (C3 l kind tid),V8 t.type t.id kind tid=false):=by
 have hb:=B6O (K6 l kind tid) l.length (λk m hkm hm hf=>by
  obtain⟨a,ha⟩:∃a,l[k]?=some a:=⟨_,zc o_⟩;obtain⟨b,hb⟩:∃b,l[m]?=some b:=⟨_,zc o_⟩;have ham:=zg ha;have hbm:=zg hb;simp only[K6,hb] at hf;simp only[K6,ha];rw[X7 (hl.ty b hbm) h2 (hl.id b hbm) h4] at hf;rw[X7 (hl.ty a ham) h2 (hl.id a ham) h4];rcases yi k m with h|h
  ·exact A73 (hl.asc k m a b h ha hb) hf
  ·obtain rfl:k=m:=by omega
   rw[ha] at hb; injection hb with hb; subst hb; exact hf) 0 l.length o_ o_ o_ o_
 refine⟨λt ht=>?_,λt ht=>?_⟩
 ·obtain⟨j,hj,hjt⟩:=A5T ht;have:=hb.1 j hj;have htm:=zg hjt;simp only[K6,hjt] at this
  rwa [X7 (hl.ty t htm) h2 (hl.id t htm) h4] at this
 ·obtain⟨j,hj,hjt⟩:=A5U ht;have:=hb.2 j hj (ze.1 hjt).1;have htm:=zg hjt;simp only[K6,hjt] at this;rw[X7 (hl.ty t htm) h2 (hl.id t htm) h4] at this;simpa using this
theorem Srt.notThere(h:F4 l kind tid=false):∀t∈l,¬(t.type=kind/\t.id=tid):=by
 rw[hl.findB o_ (by unfold I64; omega)] at h;intro t ht ⟨e1,e2⟩;have:l.any (B8B kind tid)=true:=td.2 ⟨t,ht,by simp[B8B,e1,e2]⟩;rw[h] at this; cases this
theorem Srt.insert(h:F4 l kind tid=false){x:Tg}(hx:x.type=kind/\x.id=tid):Srt (l.take (C3 l kind tid)++x::l.drop (C3 l kind tid)):=by
 obtain⟨p1,p2⟩:=hl.part h2 h4;have hno:=hl.notThere h2 h4 h;have hm:∀t∈l.take (C3 l kind tid)++x::l.drop (C3 l kind tid),t∈l\/t=x:=λt ht=>by
  rcases zp.1 ht with ht|ht
  ·exact .inl (xq ht)
  ·rcases zh.1 ht with ht|ht
   ·exact .inr ht
   ·exact .inl (xn ht)
 have hpw:=hl.pw;have hsp:l.Pairwise tLt:=hpw;rw[←xf (C3 l kind tid) l,uz] at hsp;refine C4V (λt ht=>?_) (λt ht=>?_) (uz.2 ⟨hsp.1,tz.2 ⟨λb hb=>?_,hsp.2.1⟩,λa ha b hb=>?_⟩)
 ·rcases hm t ht with h|rfl
  ·exact hl.ty t h
  ·omega
 ·rcases hm t ht with h|rfl
  ·exact hl.id t h
  ·omega
 ·have h5:=p2 b hb;have h6:=hno b (xn hb);show V8 _ _ _ _=true;rw[hx.1,hx.2];simp[V8] at h5 ⊢;omega
 ·rcases zh.1 hb with rfl|hb
  ·show V8 _ _ _ _=true;rw[hx.1,hx.2]; exact p1 a ha
  ·exact hsp.2.2 a ha b hb
theorem Srt.thereAt(h:F4 l kind tid=true):∃t,l[C3 l kind tid]?=some t/\t.type=kind/\t.id=tid:=by
 simp only[F4,yn,decide_eq_true_eq] at h;obtain⟨hlt,hz⟩:=h;obtain⟨u,hu⟩:∃u,l[C3 l kind tid]?=some u:=⟨_,zc hlt⟩;have hum:=zg hu;simp only[K6,hu] at hz;rw[A5P (hl.ty u hum) o_ (hl.id u hum) (by unfold I64; omega)] at hz;exact⟨u,hu,hz⟩
end
def Srt.sub{l l':List Tg}(h:Srt l)(hs:l'.Sublist l):Srt l' :=
 C4V (λt ht=>h.ty t (hs.subset ht)) (λt ht=>h.id t (hs.subset ht)) (h.pw.sublist hs)
def B6P{α:Type}(l:List α)(i:Nat):(l.take i++l.drop (i+1)).Sublist l:=by
 conv=>rhs; rw[←xf i l]
 refine (List.Sublist.refl _).append ?_;rw[←List.tail_drop];exact List.tail_sublist _
def Srt.key{l l':List Tg}(hl:Srt l)(h:l.map (λt=>(t.type,t.id))=l'.map (λt=>(t.type,t.id))):Srt l':=by
 have hg:∀(k:Nat) t,l'[k]?=some t->∃u,l[k]?=some u/\u.type=t.type/\u.id=t.id:=λk t hk=>by
  have:(l.map (λt=>(t.type,t.id)))[k]?=(l'.map (λt=>(t.type,t.id)))[k]?:=by rw[h]
  rw[ym,ym,hk] at this;cases h1:l[k]?<;>simp[h1] at this
  exact⟨_,rfl,this.1,this.2⟩
 refine⟨λt ht=>?_,λt ht=>?_,λi j a b hij ha hb=>?_⟩
 ·obtain⟨k,hk⟩:=yp.1 ht;obtain⟨u,hu,e1,e2⟩:=hg k t hk;rw[←e1]; exact hl.ty u (zg hu)
 ·obtain⟨k,hk⟩:=yp.1 ht;obtain⟨u,hu,e1,e2⟩:=hg k t hk;rw[←e2]; exact hl.id u (zg hu)
 ·obtain⟨u,hu,e1,e2⟩:=hg i a ha;obtain⟨v,hv,e3,e4⟩:=hg j b hb;rw[←e1,←e2,←e3,←e4];exact hl.asc i j u v hij hu hv
/-! Numbers in order. -/
def A7c:∀{l:List Int},A4g l=true↔l.Pairwise (· < ·)
 | []=>by simp[A4g]
 | [a]=>by simp[A4g]
 | a::b::r=>by
  have ih:=A7c (l:=b::r);simp only[A4g,yn,decide_eq_true_eq];rw[ih,tz (a:=a)];constructor
  ·rintro⟨h1,h2⟩;refine⟨λx hx=>?_,h2⟩;rcases zh.1 hx with rfl|hx
   ·exact h1
   ·have:=(tz.1 h2).1 x hx;omega
  ·rintro⟨h1,h2⟩;exact⟨h1 b (za ..),h2⟩
section
variable {l:List Int} (hl:l.Pairwise (· < ·))
include hl
theorem C5Z(x:Int):(∀y∈l.take (K8 l x),y<x)/\(∀y∈l.drop (K8 l x),x<=y):=by
 have hb:=B6O (fLt l x) l.length (λk m hkm hm hf=>by
  obtain⟨a,ha⟩:∃a,l[k]?=some a:=⟨_,zc o_⟩;obtain⟨b,hb⟩:∃b,l[m]?=some b:=⟨_,zc o_⟩;simp only[fLt,hb] at hf;simp only[fLt,ha];rcases yi k m with h|h
  ·rw[vi] at hl;have:=hl k m o_ hm h;rw[zc o_] at ha hb;injection ha with ha; injection hb with hb
   omega
  ·obtain rfl:k=m:=by omega
   rw[ha] at hb; injection hb with hb; subst hb; exact hf) 0 l.length o_ o_ o_ o_
 refine⟨λt ht=>?_,λt ht=>?_⟩
 ·obtain⟨j,hj,hjt⟩:=A5T ht;have:=hb.1 j hj;simp only[fLt,hjt] at this;omega
 ·obtain⟨j,hj,hjt⟩:=A5U ht;have:=hb.2 j hj (ze.1 hjt).1;simp only[fLt,hjt] at this;omega
theorem C3R{j:Nat}{x:Int}(h:l[j]?=some x):K8 l x=j:=by
 have hlt:=(ze.1 h).1;unfold K8;refine A7a _ j (l.length+1) 0 l.length o_ o_ o_ (λk _ hk=>?_) (λk hk hkl=>?_)
 ·have:=(vi.1 hl) k j o_ hlt hk;rw[zc hlt] at h;injection h with h
  simp only[fLt,zc (show k<l.length by omega)];omega
 ·rw[zc hlt] at h;injection h with h
  simp only[fLt,zc hkl];rcases yi j k with hjk|hjk
  ·have:=(vi.1 hl) j k hlt hkl hjk;omega
  ·obtain rfl:k=j:=by omega
   omega
theorem C3S(x:Int):V7 l x=true↔x∈l:=by
 constructor
 ·intro h;simp only[V7,yn,decide_eq_true_eq] at h;obtain⟨h1,h2⟩:=h;obtain⟨a,ha⟩:∃a,l[K8 l x]?=some a:=⟨_,zc h1⟩;simp only[fLt,ha] at h2;have:a=x:=by omega
  subst this;exact zg ha
 ·intro h;obtain⟨j,hj⟩:=yp.1 h;have:=C3R hl hj;simp only[V7,this,yn,decide_eq_true_eq,fLt,hj];exact⟨(ze.1 hj).1,o_⟩
theorem C0g{x:Int}(h:V7 l x=false):(l.take (K8 l x)++x::l.drop (K8 l x)).Pairwise (· < ·):=by
 obtain⟨p1,p2⟩:=C5Z hl x;have hn:x∉l:=λhm=>by rw[(C3S hl x).2 hm] at h; cases h
 have hsp:=hl;rw[←xf (K8 l x) l,uz] at hsp;refine uz.2 ⟨hsp.1,tz.2 ⟨λb hb=>?_,hsp.2.1⟩,λa ha b hb=>?_⟩
 ·have:=p2 b hb;have:x≠b:=λe=>hn (e▸xn hb);omega
 ·rcases zh.1 hb with rfl|hb
  ·exact p1 a ha
  ·exact hsp.2.2 a ha b hb
end
def B6Q{f:Fd}{c:Cl}(h:B7w f c):A2G f c=0:=by
 unfold A2G;rw[zf (by
  rintro (⟨h1,h2⟩|⟨h1,h2⟩|⟨h1,h2⟩)
  ·exact h2 (h.n0 h1)
  ·exact h2 (h.t0 h1)
  ·exact h2 (h.i0 h1)),zf (by have:=h.n1; omega),zf (by
  have:=h.t1;have:=h.i1;have:=h.i3;unfold A5K;split<;>omega),zj h.asc]
def A4l{α:Type}(f:Nat->α->Int):∀(l:List α) (i:Nat),(∀k x,l[k]?=some x->f (i+k) x=0)->D0 f l i=0
 | [],i,_=>rfl
 | y::r,i,h=>by
  simp only[D0];have h0:=h 0 y rfl;rw[zf (v_ h0)];exact A4l f r (i+1) λk x hk=>by have:=h (k+1) x (v_ hk); rwa [show i+(k+1)=i+1+k by omega] at this
def C3T{s:H7}{t:Tg}(h:A4h s t):c8 s.types t=0:=by
 unfold c8;have h1:=h.ty0;have h2:=h.ty1;have h3:=h.id1;have h4:=h.id2;rw[zf o_,zf o_,zf (by rw[h.len]; omega)];exact A4l _ _ _ λk c hc=>by rw[xe]; exact h.cell k c hc
def A8i{p:Fd->Cl->Bool}:∀{fs:List Fd} {cs:List Cl},A1Q p fs cs=true↔∀(k:Nat) f c,fs[k]?=some f->cs[k]?=some c->p f c=true
 | [],cs=>by simp[A1Q]
 | f::fs,[]=>by simp[A1Q]
 | f::fs,c::cs=>by
  rw[A1Q,yn,A8i];constructor
  ·rintro⟨h1,h2⟩ k f' c' hf hc;cases k with
   | zero=>simp at hf hc; subst hf hc; exact h1
   | succ k=>exact h2 k f' c' (v_ hf) (v_ hc)
  ·intro h;exact⟨h 0 f c rfl rfl,λk f' c' hf hc=>h (k+1) f' c' (v_ hf) (v_ hc)⟩
def A6V{p:Fd->Cl->Bool}{l:List Ty}{ts:List Tg}:T7 p l ts=true↔∀t∈ts,∀(k:Nat) f c,(D7 l t.type)[k]?=some f->t.cells[k]?=some c->p f c=true:=by
 simp only[T7,xi,A8i]
structure Rt(s:H7):Prop where
 chk:H3 s.types=0
 r:StR s
 srt:Srt s.things
 lnk:∀t∈s.things,∀(k:Nat) f c,(D7 s.types t.type)[k]?=some f->t.cells[k]?=some c->∀x∈c.ids,∃u∈s.things,u.type=B7 s.types f.of/\u.id=x
def C0h(s:H7):Prop:=∀t∈s.things,∀c∈t.cells,∀x∈c.ids,I64 x
def A3b{s:H7}(hS:A71 s.types)(hl:Srt s.things){f:Fd}{x:Int}(hx:I64 x):K7 s f x=true↔∃u∈s.things,u.type=B7 s.types f.of/\u.id=x:=by
 unfold K7;rw[hl.findB (B8D hS _) hx,td];simp[B8B]
def Rt.idsI{s:H7}(h:Rt s):C0h s:=λt ht c hc x hx=>by
 obtain⟨k,hk⟩:=yp.1 hc;obtain⟨f,hf,_⟩:=(h.r.tg t ht).cellOk hk;obtain⟨u,hu,_,rfl⟩:=h.lnk t ht k f c hf hk x hx;have:=h.srt.id u hu;unfold I64; omega
def C6w{s:H7}(h:fSt s=0)(hI:C0h s):Rt s:=by
 obtain⟨h1,h2,h3⟩:=C0f h;have hc:H3 s.types=0:=by
  unfold fSt at h;split at h
  ·rename_i g; exact (g h).elim
  ·rename_i g; exact zl g
 refine⟨hc,h1,h2,λt ht k f c hf hk x hx=>?_⟩;have:=A6V.1 h3 t ht k f c hf hk;simp only[vd,uw] at this;have:=this x hx;rw[←A3b h1.sch h2 (hI t ht c (zg hk) x hx)];simpa using this
def Rt.st{s:H7}(h:Rt s):fSt s=0:=by
 have hI:=h.idsI;unfold fSt;have h12:=h.r.len;have h1:D0 (λi t=>A1R s i t) s.things 0=0:=A4l _ _ _ λk t hk=>by
  have htm:=zg hk;rw[xe];unfold A1R;rw[zf (by rw[C3T (h.r.tg t htm)]; omega),zf];rintro⟨h2,h3⟩;obtain⟨u,hu⟩:∃u,s.things[k - 1]?=some u:=⟨_,zc (by have:=(ze.1 hk).1; omega)⟩;have hum:=zg hu;simp only[K6,hu] at h3;have h4:=h.srt.asc (k - 1) k u t o_ hu hk;rw[←X7 (h.srt.ty u hum) (h.srt.ty t htm) (h.srt.id u hum) (h.srt.id t htm)] at h4;omega
 rw[zf (by rw[h.chk]; omega),zf o_,zf (by rw[h1]; omega),zj];rw[A6V];intro t ht k f c hf hk;simp only[vd,uw];intro x hx;rw[(A3b h.r.sch h.srt (hI t ht c (zg hk) x hx)).2 (h.lnk t ht k f c hf hk x hx)];simp
/-! Events. -/
def B8G{l:List Ty}{ts:List Tg}{e:Ev}:T7 (U4 l e) l ts=true↔∀t∈ts,∀(k:Nat) f c,(D7 l t.type)[k]?=some f->t.cells[k]?=some c->c7 f.kind=true->B7 l f.of=e.type->e.id∉c.ids:=by
 rw[A6V];constructor
 ·intro h t ht k f c hf hc hk ho hm;have:=h t ht k f c hf hc;simp only[U4,hk,ho,C3G,um,vd,beq_eq_false_iff_ne,uw] at this;rcases this with (h1|h1)|h1
  ·cases h1
  ·exact h1 rfl
  ·exact h1 _ hm s_
 ·intro h t ht k f c hf hc;have:=h t ht k f c hf hc;simp only[U4,C3G,um,vd,beq_eq_false_iff_ne,uw];by_cases h1:c7 f.kind=true
  ·by_cases h2:B7 l f.of=e.type
   ·right
    have:=this h1 h2;intro x hx he;simp at he;exact this (he▸hx)
   ·left; right; exact h2
  ·left; left; simpa using h1
def B4z{s:H7}{k:Int}{j:Nat}{f:Fd}(hS:A71 s.types)(h:(D7 s.types k)[j]?=some f):1<=f.kind/\f.kind<=4:=by
 unfold D7 at h;cases hk:s.types[k.toNat]? with
 | none=>simp[hk] at h
 | some ty =>
  simp[hk] at h;exact hS.kinds ty (zg hk) f (zg h)
structure C5a(s:H7)(e:Ev):Prop where
 form:p9 e=0
 ty0:0<=e.type
 ty1:e.type.toNat<s.types.length
 ty2:e.type<=1000
 id1:1<=e.id
 id2:e.id<=999
 k1:1<=e.kind
 k2:e.kind<=6
 don:doE s e=0
def C8G{s:H7}(h:Rt s){e:Ev}(he:A2L s e=0):C5a s e:=by
 unfold A2L at he;by_cases h0:x5 s.types e=0
 ·rw[zf (v_ h0)] at he;obtain⟨a1,a2,a3,a4,a5,a6,a7⟩:=A0F h0;have:=h.r.sch.len;exact⟨a1,a2,o_,o_,a4,a5,a6,a7,he⟩
 ·rw[zj h0] at he; exact (h0 he).elim
structure C8H(s:H7)(e:Ev)(t:Tg)(f:Fd)(c:Cl):Prop where
 tt:s.things[I0 s e]?=some t
 ty:t.type=e.type
 idn:t.id=e.id
 f0:0<=e.field
 ff:(D7 s.types e.type)[e.field.toNat]?=some f
 cc:t.cells[e.field.toNat]?=some c
 fits:M2 e.kind f=true
 che:X6 s f c e=0
 st:A35 s e=A7I s (I0 s e) e.field.toNat (z7 f c e)
def B3Q{s:H7}{e:Ev}(he:C5a s e)(hk:e.kind≠1):A3Y s e=true:=by
 have hd:=he.don;unfold doE at hd;rw[zf hk] at hd;by_cases b:A3Y s e=false
 ·rw[zj b] at hd; omega
 ·simpa using b
def C8I{s:H7}(h:Rt s){e:Ev}(he:C5a s e)(hk:3<=e.kind):∃t f c,C8H s e t f c:=by
 have hb:=B3Q he o_;obtain⟨t,ht,e1,e2⟩:=h.srt.thereAt ⟨he.ty0,he.ty2⟩ ⟨he.id1,he.id2⟩ hb;have hd:=he.don;unfold doE at hd;rw[zf o_,zf (t_ hb),zf o_] at hd;unfold chE at hd;have ht':s.things[I0 s e]?=some t:=ht;split at hd
 ·rename_i f c hf hc;by_cases hkf:M2 e.kind f=true
  ·rw[zj hkf] at hd;have hst:A35 s e=A7I s (I0 s e) e.field.toNat (z7 f c e):=by
    unfold A35;rw[zf o_,zf o_,hf,hc]
   unfold A5Q at hf;by_cases h0:e.field<0
   ·rw[zj h0] at hf; cases hf
   rw[zf h0] at hf;unfold B4y at hc;rw[ht'] at hc;exact⟨t,f,c,ht',e1,e2,o_,hf,hc,hkf,hd,hst⟩
  ·rw[zf hkf] at hd; omega
 ·omega
def C3U{s:H7}{i k:Nat}{t:Tg}{c:Cl}(h:s.things[i]?=some t):A7I s i k c=⟨s.types,s.things.set i ⟨t.type,t.id,t.cells.set k c⟩⟩:=by unfold A7I; rw[h]
def C0i{s:H7}{i k:Nat}{c:Cl}:s.things.map (λt=>(t.type,t.id))=(A7I s i k c).things.map (λt=>(t.type,t.id)):=by
 unfold A7I;cases h:s.things[i]? with
 | none=>rfl
 | some t =>
  simp only[so];refine (C0a ?_).symm;rw[ym,h]; rfl
def C3V{l l':List Tg}(h:l.map (λt=>(t.type,t.id))=l'.map (λt=>(t.type,t.id))){u:Tg}(hu:u∈l):∃v∈l',v.type=u.type/\v.id=u.id:=by
 have:(u.type,u.id)∈l.map (λt=>(t.type,t.id)):=zw.2 ⟨u,hu,rfl⟩;rw[h] at this;obtain⟨v,hv,e⟩:=zw.1 this;injection e with e1 e2
 exact⟨v,hv,e1,e2⟩
def C3W{s:H7}(h:Rt s){e:Ev}(hn:I64 e.n)(hk:3<=e.kind/\e.kind<=6){f:Fd}{c:Cl}(hf:1<=f.kind/\f.kind<=4)(hc:B7w f c)(hfit:M2 e.kind f=true)(he:X6 s f c e=0):
  B7w f (z7 f c e)/\∀x∈(z7 f c e).ids,x∈c.ids\/∃u∈s.things,u.type=B7 s.types f.of/\u.id=x:=by
 have hpw:=A7c.1 hc.asc;unfold X6 at he;unfold M2 at hfit;unfold z7;by_cases k3:e.kind=3
 ·rw[zj k3] at he hfit ⊢;simp only[decide_eq_true_eq] at hfit;split at he
  ·exact⟨⟨(λhh=>(hh hfit).elim),hc.t0,hc.i0,by assumption,hc.t1,hc.i1,hc.i3,hc.asc⟩,λx hx=>.inl hx⟩
  ·omega
 rw[zf k3] at he hfit ⊢;by_cases k4:e.kind=4
 ·rw[zj k4] at he hfit ⊢;simp only[decide_eq_true_eq] at hfit;split at he
  ·omega
  ·exact⟨⟨hc.n0,(λhh=>(hh hfit).elim),hc.i0,hc.n1,n_,hc.i1,hc.i3,hc.asc⟩,λx hx=>.inl hx⟩
 rw[zf k4] at he hfit ⊢;by_cases k5:e.kind=5
 ·rw[zj k5] at he ⊢;unfold S9 at he;by_cases ht:K7 s f e.n=false
  ·rw[zj ht] at he; omega
  rw[zf ht] at he;have ht:K7 s f e.n=true:=by simpa using ht
  have hu:=(A3b h.r.sch h.srt hn).1 ht;by_cases hb:V7 c.ids e.n=true
  ·rw[zj hb] at he; omega
  rw[zf hb] at he;have hb:V7 c.ids e.n=false:=by simpa using hb
  unfold T9;by_cases g3:f.kind=3
  ·rw[zj g3];refine⟨⟨hc.n0,hc.t0,(λhh=>by rw[hfit] at hh; cases hh),hc.n1,hc.t1,s_,λ_=>s_,rfl⟩,λx hx=>.inr ?_⟩;simp at hx;subst hx;exact hu
  ·rw[zf g3] at he ⊢;have h6:=hc.i1;refine⟨⟨hc.n0,hc.t0,(λhh=>by rw[hfit] at hh; cases hh),hc.n1,hc.t1,?_,λhh=>(g3 hh).elim,A7c.2 (C0g hpw hb)⟩,λx hx=>?_⟩
   ·have:c.ids.length≠6:=λhh=>by rw[zj hh] at he; omega
    simp only[zx,zz,zt,ye];omega
   ·rcases zp.1 hx with hx|hx
    ·exact .inl (xq hx)
    ·rcases zh.1 hx with rfl|hx
     ·exact .inr hu
     ·exact .inl (xn hx)
 ·rw[zf k5] at he ⊢;have hsub:(B3J c e.n).Sublist c.ids:=B6P _ _;have hle:=hsub.length_le;refine⟨⟨hc.n0,hc.t0,(λhh=>by rw[hfit] at hh; cases hh),hc.n1,hc.t1,by have:=hc.i1; simp only; omega,λhh=>by have:=hc.i3 hh; simp only; omega,A7c.2 (hpw.sublist hsub)⟩,λx hx=>.inl (hsub.subset hx)⟩
def A4m{s s':H7}(h:s'.types=s.types){t:Tg}(ht:A4h s t):A4h s' t:=by
 refine⟨ht.ty0,by rw[h]; exact ht.ty1,ht.id1,ht.id2,by rw[h]; exact ht.len,by rw[h]; exact ht.cell⟩
def C5b(f:Fd):B7w f cl0:=by
 refine⟨λ_=>rfl,λ_=>rfl,λ_=>rfl,?_,?_,?_,λ_=>?_,rfl⟩<;>simp[cl0]
def B50{s:H7}(h:Rt s){e:Ev}(hn:I64 e.n)(he:A2L s e=0):Rt (A35 s e)/\(A35 s e).types=s.types:=by
 have ho:=C8G h he;have h2:0<=e.type/\e.type<=1000:=⟨ho.ty0,ho.ty2⟩;have h4:1<=e.id/\e.id<=999:=⟨ho.id1,ho.id2⟩;have hd:=ho.don;by_cases k1:e.kind=1
 ·unfold doE at hd;rw[zj k1] at hd;by_cases b:A3Y s e=true
  ·rw[zj b] at hd; omega
  rw[zf b] at hd;by_cases b2:s.things.length=12
  ·rw[zj b2] at hd; omega
  have hb:F4 s.things e.type e.id=false:=eq_false_of_ne_true b;have hS:A35 s e=⟨s.types,s.things.take (I0 s e)++⟨e.type,e.id,List.replicate (D7 s.types e.type).length cl0⟩::s.things.drop (I0 s e)⟩:=by unfold A35; rw[zj k1]
  rw[hS];have hm:∀t∈s.things.take (I0 s e)++⟨e.type,e.id,List.replicate (D7 s.types e.type).length cl0⟩::s.things.drop (I0 s e),t∈s.things\/t=⟨e.type,e.id,List.replicate (D7 s.types e.type).length cl0⟩:=λt ht=>by
   rcases zp.1 ht with ht|ht
   ·exact .inl (xq ht)
   ·rcases zh.1 ht with ht|ht
    ·exact .inr ht
    ·exact .inl (xn ht)
  have hm':∀t∈s.things,t∈s.things.take (I0 s e)++⟨e.type,e.id,List.replicate (D7 s.types e.type).length cl0⟩::s.things.drop (I0 s e):=λt ht=>by
   rw[←xf (I0 s e) s.things] at ht;rcases zp.1 ht with ht|ht
   ·exact yw _ ht
   ·exact yg _ (zb _ ht)
  refine⟨⟨h.chk,⟨h.r.sch,?_,λt ht=>?_⟩,h.srt.insert h2 h4 hb ⟨rfl,rfl⟩,λt ht k f c hf hc x hx=>?_⟩,rfl⟩
  ·have:=h.r.len;have:=B6I s.things e.type e.id;simp only[zx,zz,zt,ye];unfold I0;omega
  ·rcases hm t ht with ht|rfl
   ·exact A4m (s:=s) (by rfl) (h.r.tg t ht)
   ·refine⟨ho.ty0,ho.ty1,ho.id1,ho.id2,s_,λk c hc=>?_⟩;simp only[vp] at hc;split at hc
    ·injection hc with hc
     subst hc;unfold A0B;split
     ·exact B6Q (C5b _)
     ·rfl
    ·cases hc
  ·rcases hm t ht with ht|rfl
   ·obtain⟨u,hu,e1,e2⟩:=h.lnk t ht k f c hf hc x hx;exact⟨u,hm' u hu,e1,e2⟩
   ·simp only[vp] at hc;split at hc
    ·injection hc with hc
     subst hc;simp[cl0] at hx
    ·cases hc
 have hb:=B3Q ho k1;by_cases k2:e.kind=2
 ·obtain⟨t0,ht0,e1,e2⟩:=h.srt.thereAt h2 h4 hb;have ht0':s.things[I0 s e]?=some t0:=ht0;unfold doE at hd;rw[zf k1,zf (t_ hb),zj k2] at hd;by_cases m:T7 (U4 s.types e) s.types s.things=false
  ·rw[zj m] at hd; omega
  have m:T7 (U4 s.types e) s.types s.things=true:=by simpa using m
  rw[B8G] at m;have hS:A35 s e=⟨s.types,s.things.take (I0 s e)++s.things.drop (I0 s e+1)⟩:=by unfold A35; rw[zf k1,zj k2]
  rw[hS];have hsub:(s.things.take (I0 s e)++s.things.drop (I0 s e+1)).Sublist s.things:=B6P _ _;refine⟨⟨h.chk,⟨h.r.sch,by have:=hsub.length_le; have:=h.r.len; simp only; omega,λt ht=>A4m (s:=s) (by rfl) (h.r.tg t (hsub.subset ht))⟩,h.srt.sub hsub,λt ht k f c hf hc x hx=>?_⟩,rfl⟩;have htm:=hsub.subset ht;obtain⟨u,hu,e3,e4⟩:=h.lnk t htm k f c hf hc x hx;refine⟨u,?_,e3,e4⟩;have hs:=A3Z ht0';rw[hs] at hu;rcases zp.1 hu with hu|hu
  ·exact yw _ hu
  ·rcases zh.1 hu with rfl|hu
   ·exfalso;obtain⟨f',hf',hco⟩:=(h.r.tg t htm).cellOk hc;have hf:(D7 s.types t.type)[k]?=some f:=hf;rw[hf] at hf'; injection hf' with hf'; subst hf'
    have hlk:c7 f.kind=true:=by
     cases hh:c7 f.kind with
     | true=>rfl
     | false=>rw[hco.i0 hh] at hx; cases hx
    exact m t htm k f c hf hc hlk (by rw[←e1]; exact e3.symm) (by rw[←e2,e4]; exact hx)
   ·exact yg _ hu
 ·have hk3:3<=e.kind:=by have:=ho.k1; omega
  obtain⟨t,f,c,hh⟩:=C8I h ho hk3;rw[hh.st];have htm:=zg hh.tt;have htg:=h.r.tg t htm;obtain⟨f',hf',hco⟩:=htg.cellOk hh.cc;have hff:=hh.ff;rw[←hh.ty,hf'] at hff;injection hff with hff
  subst hff;obtain⟨g1,g2⟩:=C3W h hn ⟨hk3,ho.k2⟩ (B4z h.r.sch hf') hco hh.fits hh.che;have hkey:=C0i (s:=s) (i:=I0 s e) (k:=e.field.toNat) (c:=z7 f' c e);have heq:=C3U (k:=e.field.toNat) (c:=z7 f' c e) hh.tt;have hmem:∀x∈(A7I s (I0 s e) e.field.toNat (z7 f' c e)).things,x∈s.things\/x=⟨t.type,t.id,t.cells.set e.field.toNat (z7 f' c e)⟩:=λx hx=>by
   rw[heq] at hx;exact vw hx
  refine⟨⟨h.chk,⟨h.r.sch,by rw[heq]; simpa using h.r.len,λx hx=>?_⟩,h.srt.key hkey,λx hx k f c2 hf hc y hy=>?_⟩,rfl⟩
  ·rcases hmem x hx with hx|rfl
   ·exact A4m (s:=s) (by rfl) (h.r.tg x hx)
   ·refine⟨htg.ty0,htg.ty1,htg.id1,htg.id2,by rw[List.length_set]; exact htg.len,λk c2 hc2=>?_⟩;simp only[sb] at hc2;by_cases hk:e.field.toNat=k
    ·subst hk;rw[zj rfl] at hc2;split at hc2
     ·injection hc2 with hc2
      subst hc2;show A0B (D7 s.types t.type) _ _=0;unfold A0B;rw[hf'];exact B6Q g1
     ·cases hc2
    ·rw[zf hk] at hc2;exact htg.cell k c2 hc2
  ·have key:(∃u∈s.things,u.type=B7 s.types f.of/\u.id=y)->∃u∈(A7I s (I0 s e) e.field.toNat (z7 f' c e)).things,u.type=B7 s.types f.of/\u.id=y:=λ⟨u,hu,e1,e2⟩=>by
    obtain⟨v,hv,e3,e4⟩:=C3V hkey hu;exact⟨v,hv,e3.trans e1,e4.trans e2⟩
   refine key ?_;rcases hmem x hx with hx|rfl
   ·exact h.lnk x hx k f c2 hf hc y hy
   ·simp only[sb] at hc;by_cases hk:e.field.toNat=k
    ·subst hk;rw[zj rfl] at hc;split at hc
     ·injection hc with hc
      subst hc;have hf:(D7 s.types t.type)[e.field.toNat]?=some f:=hf;rw[hf'] at hf;injection hf with hf
      subst hf;rcases g2 y hy with h1|h1
      ·exact h.lnk t htm _ _ c hf' hh.cc y h1
      ·exact h1
     ·cases hc
    ·rw[zf hk] at hc;exact h.lnk t htm k f c2 hf hc y hy
end Go.Am
