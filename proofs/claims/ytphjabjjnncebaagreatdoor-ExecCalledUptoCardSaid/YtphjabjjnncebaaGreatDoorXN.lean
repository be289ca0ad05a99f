/- Parts of the proof: an abstract machine for Go functions, and what functions of the program give back (Ra7, Ra8, Rd1, Rd2, Bf1, Bf2, Pu1, Pu2, Pu3). No condition. -/
import Derived.Test.YtphjabjjnncebaaGreatDoorXM
import Derived.Test.YtphjabjjnncebaaGreatDoorXI
import Derived.Test.YtphjabjjnncebaaGreatDoorXK
set_option maxRecDepth 100000
set_option linter.all false
set_option maxHeartbeats 2000000
namespace Go.Am
open Go Go.Proofs Go.RowKit
structure A5X(l:List Ty)(S:List D2)(T:Nat)(e:Ev)(id:Nat)(T':Nat)(S':List D2)(wr:List (Nat×Option Bx)):Prop where
 fn:A2 Tryz.prog 126 [.agg [.sl (l.map H6),.bsl T 0 S.length],N5 e] (trB T S) id (.tup [.agg [.sl (l.map H6),.bsl T' 0 S'.length],.int .i64 0]) wr
 tree:A2O id T S wr T' S'
 st:A3 l S'=A0M (A3 l S) e
section
variable {l:List Ty} {S:List D2} {T:Nat} {e:Ev} {id:Nat} (hnd:(p7 T S).Nodup) (hfr:∀z∈p7 T S,z<id\/id+1024<=z) (hok:∀o∈S,o.Ok) (hR:StR (A3 l S))
include hnd hfr hok hR
omit hnd hfr hok hR in
theorem A0A(h:T9 (A3 l S) e=0):O8 l e=0/\doE (A3 l S) e=0:=by
 have hE0:T9 (A3 l S) e=if O8 l e≠0 then O8 l e else doE (A3 l S) e:=rfl
 rw[hE0] at h;by_cases h0:O8 l e=0
 ·rw[zh (by simp[h0])] at h; exact⟨h0,h⟩
 ·rw[zk h0] at h; exact (h0 h).elim
theorem B2Y(k1:e.kind=1)(h:T9 (A3 l S) e=0):∃T' S' wr,A5X l S T e id T' S' wr:=by
 obtain⟨q1,q2,q3,q4⟩:=A1t hnd hfr hok hR;obtain⟨h0,h⟩:=A0A h;obtain⟨hf0,a1,a2,a3,a4,a5,a6⟩:=V5 h0;have hty:e.type.toNat<l.length:=by omega
 obtain⟨ty,htya⟩:∃ty,l[e.type.toNat]?=some ty:=⟨_,zd hty⟩;have hfl:C2 l e.type=ty.fields:=by simp[C2,htya]
 have hf6:ty.fields.length<=6:=q3 ty (zf htya);have hll:(A3 l S).things.length=S.length:=xd ..;have hE:doE (A3 l S) e=if x9 (A3 l S) e=true then 6 else if S.length=12 then 2 else 0:=by unfold doE; rw[zk k1,hll]
 rw[hE] at h;by_cases b:x9 (A3 l S) e=true
 ·rw[zk b] at h; omega
 rw[zh b] at h;by_cases b2:S.length=12
 ·rw[zk b2] at h; omega
 have hi:E6 (A3 l S) e<=S.length:=hll▸B43 ..;have hii:B3 (S.map D2.t) e.type e.id=E6 (A3 l S) e:=rfl;have hbf:C3 (S.map D2.t) e.type e.id=false:=eq_false_of_ne_true b;have ft:=B0d (id:=id) (T:=T) (A:=S.take (E6 (A3 l S) e)) (B:=S.drop (E6 (A3 l S) e)) e ty.fields.length (by rw[xa]; exact hnd) (by rw[xa]; exact hfr) (by rw[xa]; exact hok);rw[xa] at ft;have hlen:(S.take (E6 (A3 l S) e)++A1q e ty.fields.length id::S.drop (E6 (A3 l S) e)).length=S.length+1:=by simp; omega
 have hxs:J9 (S.take (E6 (A3 l S) e)++A1q e ty.fields.length id::S.drop (E6 (A3 l S) e))=⟨(S.map N8).take (E6 (A3 l S) e)++.agg [.int .i64 e.type,.int .i64 e.id,.bsl (id+1) 0 ty.fields.length]::(S.map N8).drop (E6 (A3 l S) e),zT,false,false⟩:=by
  simp[J9,yr,up,N8,A1q]
 refine⟨id,_,_,⟨?_,ft,?_⟩⟩
 ·rw[hlen,hxs];refine (B2N l S e T id (E6 (A3 l S) e) ty.fields.length (E6 (A3 l S) e) (by omega) hf0 a1 a2 a3 a4 fun D id hD=>?_).more fun q hq=>by
   simp only[zi,ym,or_false] at hq;subst hq;exact zb ..
  have:=B3x l S e 0 ty D T id k1 hbf b2 htya a1 (by omega) (by omega) (fun e=>hD _ (zb ..) e.symm);rw[hii] at this;exact this
 ·unfold A0M;rw[zk k1];simp[A3,A1q,yr,up,hfl]
theorem B2Z(k2:e.kind=2)(h:T9 (A3 l S) e=0):∃T' S' wr,A5X l S T e id T' S' wr:=by
 obtain⟨q1,q2,q3,q4⟩:=A1t hnd hfr hok hR;obtain⟨h0,h⟩:=A0A h;obtain⟨hf0,a1,a2,a3,a4,a5,a6⟩:=V5 h0;have hll:(A3 l S).things.length=S.length:=xd ..;have k1:e.kind≠1:=by omega
 by_cases b:x9 (A3 l S) e=false
 ·have hE:doE (A3 l S) e=5:=by unfold doE; rw[zh k1,zk b]
  omega
 have b':x9 (A3 l S) e=true:=by simpa using b
 have hE:doE (A3 l S) e=if M2 (P8 l e) l (S.map D2.t)=false then 4 else 0:=by unfold doE; rw[zh k1,zh b,zk k2]; rfl
 rw[hE] at h;by_cases m:M2 (P8 l e) l (S.map D2.t)=false
 ·rw[zk m] at h; omega
 have m':M2 (P8 l e) l (S.map D2.t)=true:=by simpa using m
 have hlt:E6 (A3 l S) e<S.length:=hll▸A6S b';obtain⟨o,ho⟩:∃o,S[E6 (A3 l S) e]?=some o:=⟨_,zd hlt⟩;have hs:=A1s ho;have hii:B3 (S.map D2.t) e.type e.id=E6 (A3 l S) e:=rfl;have hnd':=hnd;rw[p7,yw] at hnd';have dT:∀q∈E8 S,q.1≠T:=fun q hq e=>hnd'.1 (e▸A2N hq);have ft:=B0e (id:=id) (T:=T) (A:=S.take (E6 (A3 l S) e)) (B:=S.drop (E6 (A3 l S) e+1)) (o:=o) (by rw[←hs]; exact hnd) (by rw[←hs]; exact hfr) (by rw[←hs]; exact hok);rw[←hs] at ft;have hlen:(S.take (E6 (A3 l S) e)++S.drop (E6 (A3 l S) e+1)).length=S.length - 1:=by simp; omega
 have hxs:J9 (S.take (E6 (A3 l S) e)++S.drop (E6 (A3 l S) e+1))=⟨(S.map N8).take (E6 (A3 l S) e)++(S.map N8).drop (E6 (A3 l S) e+1),zT,false,false⟩:=by
  simp[J9,yr,up]
 refine⟨id,_,_,⟨?_,ft,?_⟩⟩
 ·rw[hlen,hxs];refine B2S l S e T id (E6 (A3 l S) e) (E6 (A3 l S) e) (E8 S) hnd'.2 dT (by omega) hf0 a1 a2 a3 a4 fun D id hD=>?_;have:=B3y l S e 0 D T id k2 b' hok (by omega) (by omega) (fun e=>hD _ (zb ..) e.symm) hnd'.2 (fun q hq=>hD q (za _ hq)) dT q4 m';rw[hii] at this;exact this
 ·unfold A0M;rw[zh k1,zk k2];simp[A3,yr,up]
end
theorem A9Y(c:Cl)(i:Option Nat):∀(cs:List Cl) (is:List (Option Nat)) (k:Nat),List.zipWith H4 (cs.set k c) (is.set k i)=(List.zipWith H4 cs is).set k (H4 c i)
 | [],_,_=>by simp
 | _::_,[],_=>by simp
 | _::cs,_::is,0=>by simp
 | _::cs,_::is,k+1=>by simp[A9Y c i cs is k]
theorem A5Y{c:Cl}{i:Option Nat}:∀{cs:List Cl} {is:List (Option Nat)} {k:Nat},cs[k]?=some c->is[k]?=some i->∃X Y,X7 cs is=X++(idB c i++Y)/\∀c' i',X7 (cs.set k c') (is.set k i')=X++(idB c' i'++Y)
 | [],_,_,h,_=>by simp at h
 | _::_,[],_,_,h=>by simp at h
 | c0::cs,i0::is,0,h1,h2=>by
  simp only[yb,zc] at h1 h2;subst h1 h2;exact⟨[],X7 cs is,rfl,fun _ _=>rfl⟩
 | c0::cs,i0::is,k+1,h1,h2=>by
  simp only[xe] at h1 h2;obtain⟨X,Y,e1,e2⟩:=A5Y h1 h2;refine⟨idB c0 i0++X,Y,?_,fun c' i'=>?_⟩
  ·rw[X7,e1,xg]
  ·rw[List.set_cons_succ,List.set_cons_succ,X7,e2,xg]
def A2P(o:D2)(k:Nat)(c:Cl)(io:Option Nat):D2:=⟨⟨o.t.type,o.t.id,o.t.cells.set k c⟩,o.c,o.is.set k io⟩
theorem A9Z{o:D2}{k:Nat}{c:Cl}{io:Option Nat}(h:o.Ok)(hn:io=none->c.ids=[]):(A2P o k c io).Ok:=by
 refine⟨by simpa [A2P] using h.len,fun j d h1 h2=>?_⟩;simp only[A2P] at h1 h2;rw[List.getElem?_set] at h1 h2;by_cases hj:k=j
 ·subst hj;rw[zk rfl] at h1 h2;split at h1
  ·split at h2
   ·injection h1 with h1; injection h2 with h2; subst h1; exact hn h2
   ·cases h2
  ·cases h1
 ·rw[zh hj] at h1 h2;exact h.nil _ _ h1 h2
theorem A7s(o:D2)(k:Nat)(c:Cl)(io:Option Nat):N8 (A2P o k c io)=N8 o:=by simp[N8,A2P]
theorem A7t(o:D2)(k:Nat)(c:Cl)(io:Option Nat):cBn (A2P o k c io)=⟨(List.zipWith H4 o.t.cells o.is).set k (H4 c io),zC,false,false⟩:=by
 simp only[cBn,A2P,A9Y]
section
variable {l:List Ty} {S:List D2} {T:Nat} {e:Ev} {id:Nat} (hnd:(p7 T S).Nodup) (hfr:∀z∈p7 T S,z<id\/id+1024<=z) (hok:∀o∈S,o.Ok) (hR:StR (A3 l S))
theorem A9a{i k:Nat}{o:D2}(ho:S[i]?=some o){c:Cl}{io:Option Nat}{wr:List (Nat×Option Bx)}(hs:A0M (A3 l S) e=A8o (A3 l S) i k c)
  (hf:A2 Tryz.prog 126 [.agg [.sl (l.map H6),.bsl T 0 S.length],N5 e] (trB T S) id (.tup [.agg [.sl (l.map H6),.bsl T 0 S.length],.int .i64 0]) wr)
  (ht:A2O id T (S.take i++o::S.drop (i+1)) wr T (S.take i++A2P o k c io::S.drop (i+1))):∃T' S' wr,A5X l S T e id T' S' wr:=by
 rw[←A1s ho] at ht;have hi:=(ze.1 ho).1;have hset:S.set i (A2P o k c io)=S.take i++A2P o k c io::S.drop (i+1):=by rw[List.set_eq_take_append_cons_drop,zk hi]
 rw[←hset] at ht;refine⟨T,_,wr,⟨?_,ht,?_⟩⟩
 ·rw[List.length_set]; exact hf
 ·rw[hs];unfold A8o;have:(A3 l S).things[i]?=some o.t:=by simp only[A3]; rw[ye,ho]; rfl
  rw[this];simp only[A3,List.map_set];rfl
include hnd hfr hok hR
theorem B44(k3:3<=e.kind)(h:T9 (A3 l S) e=0):∃T' S' wr,A5X l S T e id T' S' wr:=by
 obtain⟨q1,q2,q3,q4⟩:=A1t hnd hfr hok hR;obtain⟨h0,h⟩:=A0A h;obtain⟨hf0,a1,a2,a3,a4,a5,a6⟩:=V5 h0;have hty:e.type.toNat<l.length:=by omega
 obtain⟨ty,htya⟩:∃ty,l[e.type.toNat]?=some ty:=⟨_,zd hty⟩;have hfl:C2 l e.type=ty.fields:=by simp[C2,htya]
 have hf6:ty.fields.length<=6:=q3 ty (zf htya);have hll:(A3 l S).things.length=S.length:=xd ..;have k1:e.kind≠1:=by omega
 have k2:e.kind≠2:=by omega
 by_cases b:x9 (A3 l S) e=false
 ·have hE:doE (A3 l S) e=5:=by unfold doE; rw[zh k1,zk b]
  omega
 have b':x9 (A3 l S) e=true:=by simpa using b
 have hE:doE (A3 l S) e=chE (A3 l S) e:=by unfold doE; rw[zh k1,zh b,zh k2]
 rw[hE] at h;have hlt:E6 (A3 l S) e<S.length:=hll▸A6S b';obtain⟨o,ho⟩:∃o,S[E6 (A3 l S) e]?=some o:=⟨_,zd hlt⟩;have hs:=A1s ho;have hoS:=zf ho;have hot:=q4 o.t (yi.2 ⟨o,hoS,rfl⟩);have hlen:=(A5W hnd hfr hok hR (by omega) (by omega) b' ho htya).2.2;have hbx:∀q∈o.bxs,q∈E8 S:=fun q hq=>xq.2 ⟨o,hoS,hq⟩;have hnd':=hnd;rw[p7,yw] at hnd';have dT:∀q∈E8 S,q.1≠T:=fun q hq e=>hnd'.1 (e▸A2N hq);have dc:T≠o.c:=fun e=>dT _ (hbx _ (zb ..)) e.symm;have his:=(hok o hoS).len;have htS:(A3 l S).things[E6 (A3 l S) e]?=some o.t:=by simp only[A3] at ho ⊢; rw[ye,ho]; rfl
 cases hfd:Z1 (A3 l S) e with
 | none =>
  have:chE (A3 l S) e=5:=by unfold chE; rw[hfd]
  omega
 | some f =>
 have hfd':=hfd;unfold Z1 at hfd;by_cases h5:e.field<0
 ·rw[zk h5] at hfd; cases hfd
 rw[zh h5] at hfd;have hfd:(C2 l e.type)[e.field.toNat]?=some f:=hfd;rw[hfl] at hfd;have hkl:e.field.toNat<ty.fields.length:=(ze.1 hfd).1;obtain⟨cl,hcl⟩:∃cl,o.t.cells[e.field.toNat]?=some cl:=⟨_,zd (by omega)⟩;obtain⟨io,hio⟩:∃io,o.is[e.field.toNat]?=some io:=⟨_,zd (by omega)⟩;have hclo:A1r (A3 l S) e=some cl:=by
  unfold A1r;rw[htS];exact hcl
 have hchE:chE (A3 l S) e=if H8 e.kind f=true then O7 (A3 l S) f cl e else 7:=by unfold chE; rw[hfd',hclo]
 rw[hchE] at h;by_cases hkf:H8 e.kind f=true
 case neg=>rw[zh hkf] at h; omega
 rw[zk hkf] at h;have hrs:A0M (A3 l S) e=A8o (A3 l S) (E6 (A3 l S) e) e.field.toNat (s9 f cl e):=by
  unfold A0M;rw[zh k1,zh k2,hfd',hclo]
 have hc8:cl.ids.length<=1000:=by have:=hot.2.2.2.2 cl (zf hcl); omega
 have hx:=A3G hcl hio;obtain⟨X,Y,hX1,hX2⟩:=A5Y hcl hio;have hn:io=none->cl.ids=[]:=fun hh=>(hok o hoS).nil _ _ hcl (hh▸hio);have hnd2:(p7 T (S.take (E6 (A3 l S) e)++o::S.drop (E6 (A3 l S) e+1))).Nodup:=by rw[←hs]; exact hnd
 have hfr2:∀z∈p7 T (S.take (E6 (A3 l S) e)++o::S.drop (E6 (A3 l S) e+1)),z<id\/id+1024<=z:=by rw[←hs]; exact hfr
 have hok2:∀x∈S.take (E6 (A3 l S) e)++o::S.drop (E6 (A3 l S) e+1),x.Ok:=by rw[←hs]; exact hok
 have hm2:∀q∈[(T,J9 S),(o.c,cBn o)],q∈trB T S:=fun q hq=>by
  simp only[zi,ym,or_false] at hq;rcases hq with rfl|rfl
  ·exact zb ..
  ·exact za _ (hbx _ (zb ..))
 have hII:∀I,io=some I->(∀D,(∀q∈[(T,J9 S),(o.c,cBn o),(I,iBx cl)],q.1≠D)->D≠I)/\T≠I/\o.c≠I/\∀q∈[(T,J9 S),(o.c,cBn o),(I,iBx cl)],q∈trB T S:=fun I hI=>by
  subst hI;have hIm:(I,iBx cl)∈X7 o.t.cells o.is:=A1o _ hcl hio _ (zb ..);have hIr:=hbx _ (za _ hIm);refine⟨fun D hD e=>hD (I,iBx cl) (by simp) e.symm,fun e=>dT _ hIr e.symm,B2X hnd hoS hIm,fun q hq=>?_⟩;simp only[zi,ym,or_false] at hq;rcases hq with rfl|rfl|rfl
  ·exact zb ..
  ·exact za _ (hbx _ (zb ..))
  ·exact za _ hIr
 by_cases k4:e.kind=3\/e.kind=4
 ·obtain⟨n',t',hc'⟩:∃n t,s9 f cl e=⟨n,t,cl.ids⟩:=by
   unfold s9;rcases k4 with k|k
   ·exact⟨e.n,cl.text,by rw[zk k]⟩
   ·exact⟨cl.n,e.text,by rw[zh (by omega),zk k]⟩
  rw[hc'] at hrs;have hW:∀id,L4 (A3 l S) f cl e o.c e.field.toNat id (List.zipWith H4 o.t.cells o.is) io=[(o.c,some ⟨(List.zipWith H4 o.t.cells o.is).set e.field.toNat (H4 ⟨n',t',cl.ids⟩ io),zC,false,false⟩)]:=fun id=>by unfold L4; rw[zh (by simp[h]),zk k4,hc']
  have hwr:[(o.c,some (cBn (A2P o e.field.toNat ⟨n',t',cl.ids⟩ io)))]=[(o.c,some (⟨(List.zipWith H4 o.t.cells o.is).set e.field.toNat (H4 ⟨n',t',cl.ids⟩ io),zC,false,false⟩:Bx))]:=by rw[A7t]
  refine A9a (io:=io) ho hrs (wr:=[(o.c,some (cBn (A2P o e.field.toNat ⟨n',t',cl.ids⟩ io)))]) ?_ ?_
  ·rw[hwr];cases io with
   | none =>
    refine (B2O l S e T id o.c (List.zipWith H4 o.t.cells o.is) e.field.toNat _ _ _ hx n' t' dc (E6 (A3 l S) e) (by omega) hf0 a1 a2 a3 a4 fun D id hD=>?_).more hm2;have d1:D≠T:=fun e=>hD _ (zb ..) e.symm;have d2:D≠o.c:=fun e=>hD _ (za _ (zb ..)) e.symm;refine B3z l S e 0 D T o.c id (List.zipWith H4 o.t.cells o.is) e.field.toNat _ _ _ hx n' t' k3 b' (by omega) d1 d2 dc fun id=>?_;have:=A0h l S e (E6 (A3 l S) e) o ty f cl D T id k3 a6 (by omega) hfd hkf hcl hio htya a1 ho hlen his (hn rfl) (by omega) (by omega) (by omega) hc8 d1 d2 dc;rw[hW,h] at this;exact this
   | some I =>
    obtain⟨i1,i2,i3,i4⟩:=hII I rfl;refine (B0h l S e T id o.c (List.zipWith H4 o.t.cells o.is) e.field.toNat _ _ _ hx n' t' I cl.ids dc i2 i3 (E6 (A3 l S) e) (by omega) hf0 a1 a2 a3 a4 fun D id hD=>?_).more i4;have d1:D≠T:=fun e=>hD _ (zb ..) e.symm;have d2:D≠o.c:=fun e=>hD _ (za _ (zb ..)) e.symm;have d4:=i1 D hD;refine B2V l S e 0 D T o.c id (List.zipWith H4 o.t.cells o.is) e.field.toNat _ _ _ hx n' t' I cl.ids d4 i2 i3 k3 b' (by omega) d1 d2 dc fun id=>?_;have:=p6 l S e (E6 (A3 l S) e) o ty f cl I D T id k3 a6 (by omega) hfd hkf hcl hio htya a1 ho hlen his (by omega) (by omega) (by omega) hc8 d1 d2 dc d4 i2 i3;rw[hW,h] at this;exact this
  ·refine B0f (X:=X7 o.t.cells o.is) rfl ?_ (A7s ..) (A9Z (hok o hoS) hn) hnd2 hok2;show (o.c,_)::X7 (o.t.cells.set e.field.toNat ⟨n',t',cl.ids⟩) (o.is.set e.field.toNat io)=_;rw[hX2,hX1];cases io<;>rfl
 ·obtain⟨n',t',ys,hc'⟩:∃n t ys,s9 f cl e=⟨n,t,ys⟩:=⟨_,_,_,rfl⟩;rw[hc'] at hrs;have hW:∀id,L4 (A3 l S) f cl e o.c e.field.toNat id (List.zipWith H4 o.t.cells o.is) io=(if e.kind=5/\f.kind=3 then [] else A0I io)++[(o.c,some ⟨(List.zipWith H4 o.t.cells o.is).set e.field.toNat (H4 ⟨n',t',ys⟩ (some id)),zC,false,false⟩),(id,some ⟨ys.map eI,.int .i64 0,false,false⟩)]:=fun id=>by unfold L4; rw[zh (by simp[h]),zh k4,hc']
  refine A9a (io:=some id) ho hrs (wr:=(if e.kind=5/\f.kind=3 then [] else A0I io)++[(o.c,some (cBn (A2P o e.field.toNat ⟨n',t',ys⟩ (some id)))),(id,some ⟨ys.map eI,.int .i64 0,false,false⟩)]) ?_ ?_
  ·rw[A7t];cases io with
   | none =>
    have hg:(if e.kind=5/\f.kind=3 then [] else A0I none)=[]:=(by split<;>rfl);rw[hg,xi];refine (B2P l S e T id o.c (List.zipWith H4 o.t.cells o.is) e.field.toNat n' t' ys dc (E6 (A3 l S) e) (by omega) hf0 a1 a2 a3 a4 fun D id hD=>?_).more hm2;have d1:D≠T:=fun e=>hD _ (zb ..) e.symm;have d2:D≠o.c:=fun e=>hD _ (za _ (zb ..)) e.symm;refine B40 l S e 0 D T o.c id (List.zipWith H4 o.t.cells o.is) e.field.toNat n' t' ys k3 b' (by omega) d1 d2 dc fun id=>?_;have:=A0h l S e (E6 (A3 l S) e) o ty f cl D T id k3 a6 (by omega) hfd hkf hcl hio htya a1 ho hlen his (hn rfl) (by omega) (by omega) (by omega) hc8 d1 d2 dc;rw[hW,h,hg] at this;exact this
   | some I =>
    obtain⟨i1,i2,i3,i4⟩:=hII I rfl;by_cases k5:e.kind=5/\f.kind=3
    ·rw[zk k5,xi];refine (B0i l S e T id o.c (List.zipWith H4 o.t.cells o.is) e.field.toNat n' t' ys I cl.ids dc i2 i3 (E6 (A3 l S) e) (by omega) hf0 a1 a2 a3 a4 fun D id hD=>?_).more i4;have d1:D≠T:=fun e=>hD _ (zb ..) e.symm;have d2:D≠o.c:=fun e=>hD _ (za _ (zb ..)) e.symm;have d4:=i1 D hD;refine B2W l S e 0 D T o.c id (List.zipWith H4 o.t.cells o.is) e.field.toNat n' t' ys I cl.ids d4 i2 i3 k3 b' (by omega) d1 d2 dc fun id=>?_;have:=p6 l S e (E6 (A3 l S) e) o ty f cl I D T id k3 a6 (by omega) hfd hkf hcl hio htya a1 ho hlen his (by omega) (by omega) (by omega) hc8 d1 d2 dc d4 i2 i3;rw[hW,h,zk k5] at this;exact this
    ·rw[zh k5];refine (B2Q l S e T id o.c (List.zipWith H4 o.t.cells o.is) e.field.toNat n' t' ys I cl.ids dc i2 i3 (E6 (A3 l S) e) (by omega) hf0 a1 a2 a3 a4 fun D id hD=>?_).more i4;have d1:D≠T:=fun e=>hD _ (zb ..) e.symm;have d2:D≠o.c:=fun e=>hD _ (za _ (zb ..)) e.symm;have d4:=i1 D hD;refine B41 l S e 0 D T o.c id (List.zipWith H4 o.t.cells o.is) e.field.toNat n' t' ys I cl.ids d4 i2 i3 k3 b' (by omega) d1 d2 dc fun id=>?_;have:=p6 l S e (E6 (A3 l S) e) o ty f cl I D T id k3 a6 (by omega) hfd hkf hcl hio htya a1 ho hlen his (by omega) (by omega) (by omega) hc8 d1 d2 dc d4 i2 i3;rw[hW,h,zh k5] at this;exact this
  ·refine B0g (X:=X) (I:=idB cl io) (Y:=Y) (b:=⟨ys.map eI,.int .i64 0,false,false⟩) ?_ ?_ ?_ (A7s ..) (A9Z (hok o hoS) (by simp)) hnd2 hfr2 hok2
   ·show (o.c,_)::X7 o.t.cells o.is=_;rw[hX1]
   ·show (o.c,_)::X7 (o.t.cells.set e.field.toNat ⟨n',t',ys⟩) (o.is.set e.field.toNat (some id))=_;rw[hX2];rfl
   ·intro p hp;split at hp
    ·cases hp
    ·cases io with
     | none=>cases hp
     | some I=>simp only[A0I,xm] at hp; subst hp; simp[idB]
theorem B2a(h:T9 (A3 l S) e=0):∃T' S' wr,A5X l S T e id T' S' wr:=by
 have h6:=(V5 (A0A h).1).2.2.2.2.2.1;by_cases k1:e.kind=1
 ·exact B2Y hnd hfr hok hR k1 h
 by_cases k2:e.kind=2
 ·exact B2Z hnd hfr hok hR k2 h
 ·exact B44 hnd hfr hok hR (by omega) h
end
def ownC(b:Nat):List Cl->List (Option Nat)
 | []=>[]
 | _::cs=>some b::ownC (b+1) cs
def Y6(t:Nat):Nat->List Tg->List D2
 | _,[]=>[]
 | q,x::xs=>⟨x,t+1+q,ownC (t+16+16*q) x.cells⟩::Y6 t (q+1) xs
theorem A4F:∀{l:List Cl} {b k:Nat} {c:Cl},l[k]?=some c->(ownC b l)[k]?=some (some (b+k))
 | [],_,_,_,h=>by simp at h
 | _::_,b,0,_,_=>rfl
 | _::l,b,k+1,c,h=>by
  simp only[xe] at h;rw[ownC,xe,A4F h];congr 2; omega
theorem A4G:∀(l:List Cl) (b:Nat),(ownC b l).length=l.length
 | [],_=>rfl
 | _::l,b=>by simp[ownC,A4G l]
theorem A0j(t:Nat):∀(l:List Tg) (q:Nat),(Y6 t q l).length=l.length
 | [],_=>rfl
 | _::l,q=>by simp[Y6,A0j t l]
theorem B2b(t:Nat):∀(l:List Tg) (q:Nat),(Y6 t q l).map D2.t=l
 | [],_=>rfl
 | _::l,q=>by simp[Y6,B2b t l]
theorem A6T(t:Nat):∀(l:List Tg) (q:Nat),∀o∈Y6 t q l,o.Ok
 | [],_,o,h=>by cases h
 | x::l,q,o,h=>by
  rcases zi.1 h with rfl|h
  ·refine⟨A4G ..,fun k c h1 h2=>?_⟩;have h1:x.cells[k]?=some c:=h1;have h2:(ownC (t+16+16*q) x.cells)[k]?=some none:=h2;rw[A4F h1] at h2;cases h2
  ·exact A6T t l (q+1) o h
theorem A0k(b:Nat):∀(l:List Cl),∀z∈(X7 l (ownC b l)).map Prod.fst,b<=z/\z<b+l.length
 | [],z,h=>by cases h
 | c::l,z,h=>by
  simp only[ownC,X7,idB,xu,yd,ww,yo,xi,zi] at h;rcases h with rfl|h
  ·simp
  ·have:=A0k (b+1) l z h;simp only[yz];omega
theorem A2p(b:Nat):∀(l:List Cl),((X7 l (ownC b l)).map Prod.fst).Nodup
 | []=>tf
 | c::l=>by
  simp only[ownC,X7,idB,xu,yd,ww,yo,xi,yw];refine⟨fun h=>?_,A2p (b+1) l⟩;have:=A0k (b+1) l b h;omega
theorem A3H(t:Nat):∀(l:List Tg) (q:Nat),(∀x∈l,x.cells.length<=16)->∀z∈nmR (Y6 t q l),(t+1+q<=z/\z<t+1+q+l.length)\/(t+16+16*q<=z/\z<t+16+16*(q+l.length))
 | [],_,_,z,h=>by cases h
 | x::l,q,h6,z,h=>by
  rw[Y6,A1p] at h;have hx:=h6 x (zb ..);simp only[yz];rcases zo.1 h with h|h
  ·rcases zi.1 h with rfl|h
   ·left; simp only; omega
   ·have h:z∈(X7 x.cells (ownC (t+16+16*q) x.cells)).map Prod.fst:=h;have:=A0k _ _ z h;omega
  ·have:=A3H t l (q+1) (fun y hy=>h6 y (za _ hy)) z h;omega
theorem A9b(t:Nat):∀(l:List Tg) (q:Nat),(∀x∈l,x.cells.length<=16)->q+l.length<=12->(nmR (Y6 t q l)).Nodup
 | [],_,_,_=>tf
 | x::l,q,h6,h12=>by
  have hx:=h6 x (zb ..);simp only[yz] at h12;rw[Y6,A1p,xj];refine⟨yw.2 ⟨fun h=>?_,A2p _ _⟩,A9b t l (q+1) (fun y hy=>h6 y (za _ hy)) (by omega),fun a ha b hb=>?_⟩
  ·have h:t+1+q∈(X7 x.cells (ownC (t+16+16*q) x.cells)).map Prod.fst:=h;have:=A0k _ _ _ h;omega
  ·have hb:=A3H t l (q+1) (fun y hy=>h6 y (za _ hy)) b hb;rcases zi.1 ha with rfl|h
   ·simp only; omega
   ·have h:a∈(X7 x.cells (ownC (t+16+16*q) x.cells)).map Prod.fst:=h;have:=A0k _ _ a h;omega
theorem B0k(t q:Nat)(l:List Cl):P4 t q l l.length=List.zipWith H4 l (ownC (t+16+16*q) l):=by
 have:∀k,k<=l.length->P4 t q l k=(List.zipWith H4 l (ownC (t+16+16*q) l)).take k:=fun k=>by
  induction k with
  | zero=>intro _; simp[P4]
  | succ k ih =>
   intro h;have hc:l[k]?=some l[k]:=zd (by omega);rw[P4,hc];simp only;rw[ih (by omega),xw,A3G hc (A4F hc)];rfl
 rw[this _ (yg _),zn];simp[A4G]
theorem A4H(t:Nat):∀{l:List Tg} {q i:Nat} {x:Tg},l[i]?=some x->(Y6 t q l)[i]?=some ⟨x,t+1+(q+i),ownC (t+16+16*(q+i)) x.cells⟩
 | [],_,_,_,h=>by simp at h
 | x::l,q,0,y,h=>by simp only[yb,zc] at h; subst h; rfl
 | _::l,q,i+1,y,h=>by
  simp only[xe] at h;rw[Y6,xe,A4H t h];have:q+1+i=q+(i+1):=by omega
  rw[this]
theorem B0l(t:Nat)(l:List Tg):L6 t l l.length=(Y6 t 0 l).map N8:=by
 have:∀k,k<=l.length->L6 t l k=((Y6 t 0 l).map N8).take k:=fun k=>by
  induction k with
  | zero=>intro _; simp[L6]
  | succ k ih =>
   intro h;have hc:l[k]?=some l[k]:=zd (by omega);rw[L6,hc];simp only;rw[ih (by omega),xw,ye,A4H t hc];simp[eTo,N8]
 rw[this _ (yg _),zn];simp[A0j]
theorem B45{t q:Nat}{l:List Cl}{k m:Nat}{c:Cl}(hc:l[m]?=some c)(h:m<k):(t+16+16*q+m,some (iBx c))∈Z8 t q l k:=by
 induction k with
 | zero=>omega
 | succ k ih =>
  rw[Z8];by_cases hk:m=k
  ·subst hk; rw[hc]; exact zb ..
  ·have:=ih (by omega);split
   ·exact za _ this
   ·exact this
theorem B2c{t:Nat}{l:List Tg}{i j:Nat}{x:Tg}(hx:l[j]?=some x)(h:j<i):(t+1+j,some (cBx t j x))∈I8 t l i/\∀p∈Z8 t j x.cells x.cells.length,p∈I8 t l i:=by
 induction i with
 | zero=>omega
 | succ i ih =>
  rw[I8];by_cases hk:j=i
  ·subst hk; rw[hx]; exact⟨zb ..,fun p hp=>za _ (yn _ hp)⟩
  ·have:=ih (by omega);split
   ·exact⟨za _ (zx _ this.1),fun p hp=>za _ (zx _ (this.2 p hp))⟩
   ·exact this
theorem A7u{b:Nat}:∀{l:List Cl} {p:Nat×Bx},p∈X7 l (ownC b l)->∃k c,l[k]?=some c/\p=(b+k,iBx c)
 | [],p,h=>by cases h
 | c::l,p,h=>by
  simp only[ownC,X7,idB,yo,xi,zi] at h;rcases h with rfl|h
  ·exact⟨0,c,rfl,rfl⟩
  ·obtain⟨k,d,h1,rfl⟩:=A7u h;exact⟨k+1,d,h1,by rw[yx,to 1 k]⟩
theorem B46{t:Nat}{l:List Tg}{o:D2}(h:o∈Y6 t 0 l):∃i x,l[i]?=some x/\o=⟨x,t+1+i,ownC (t+16+16*i) x.cells⟩:=by
 obtain⟨i,hi⟩:=yk.1 h;have hl:i<l.length:=by have:=(ze.1 hi).1; rwa [A0j] at this
 have hx:l[i]?=some l[i]:=zd hl;rw[A4H t hx] at hi;injection hi with hi
 exact⟨i,_,hx,by rw[←hi,yu]⟩
theorem B2d{t:Nat}{l:List Tg}{q:Nat×Bx}(h:q∈trB t (Y6 t 0 l)):(q.1,some q.2)∈(t,some (⟨L6 t l l.length,zT,false,false⟩:Bx))::I8 t l l.length:=by
 rcases zi.1 h with rfl|h
 ·rw[B0l]; exact zb ..
 ·refine za _ ?_;obtain⟨o,ho,hq⟩:=xq.1 h;obtain⟨i,x,hx,rfl⟩:=B46 ho;have hin:=B2c (t:=t) hx (ze.1 hx).1;rcases zi.1 hq with rfl|hq
  ·have:=hin.1;rw[cBx,B0k] at this;exact this
  ·obtain⟨k,c,hc,rfl⟩:=A7u hq;exact hin.2 _ (B45 hc (ze.1 hc).1)
theorem B2e{t:Nat}{l:List Tg}(h6:∀x∈l,x.cells.length<=16)(h12:l.length<=12):(p7 t (Y6 t 0 l)).Nodup:=by
 refine yw.2 ⟨fun h=>?_,A9b t l 0 h6 (by omega)⟩;have:=A3H t l 0 h6 t h;omega
theorem A6U{t:Nat}{l:List Tg}(h6:∀x∈l,x.cells.length<=16)(h12:l.length<=12):∀z∈p7 t (Y6 t 0 l),t<=z/\z<t+1000:=fun z h=>by
 rcases zi.1 h with rfl|h
 ·omega
 ·have:=A3H t l 0 h6 z h;omega
theorem A2Q(t:Nat)(s:F1):A3 s.types (Y6 t 0 s.things)=s:=by simp[A3,B2b]
theorem A8p{s:F1}(h:fSt s=0):StR s/\Srt s.things/\M2 (fun f c=>!c.ids.any fun x=>!F9 s f x) s.types s.things=true:=by
 unfold fSt at h;split at h
 ·rename_i h1; exact (h1 h).elim
 ·rename_i h1;have h1:F8 s.types=0:=by omega
  split at h
  ·omega
  ·rename_i h2;split at h
   ·rename_i h3; exact (h3 h).elim
   ·rename_i h3;have h3:B9 (fun i t=>k9 s i t) s.things 0=0:=(by omega);obtain⟨g1,g2⟩:=B2E (A5H h1) h3;refine⟨⟨A5H h1,by omega,g1⟩,g2,?_⟩;split at h
    ·assumption
    ·omega
def y9(s:F1)(e:Ev):Int:=if fSt s≠0 then fSt s else T9 s e
def B2f(s:F1)(e:Ev):AV:=if y9 s e=0 then B4 (A0M s e) else eS0
theorem A0y{q:Nat×Option Bx}:∀{wr l:List (Nat×Option Bx)},q∈f8 l wr->q∈l\/q∈wr
 | [],_,h=>.inl h
 | p::wr,l,h=>by
  rw[f8] at h;rcases A0y h with h|h
  ·rcases zi.1 h with rfl|h
   ·exact .inr (zb ..)
   ·exact .inl h
  ·exact .inr (za _ h)
theorem A0B{l:List (Nat×Option Bx)}{r:List Nat}(h:∀q∈l,q.1∉r):R0 (l.map (fun x=>x.fst)) r:=R3.2 fun x hx=>by
 obtain⟨q,hq,rfl⟩:=yi.1 hx;exact h q hq
theorem B5N{T:Nat}{S:List D2}:∀q∈trB T S,q.2.ro=false:=fun q hq=>by
 rcases zi.1 hq with rfl|hq
 ·rfl
 ·obtain⟨o,_,hq⟩:=xq.1 hq;rcases zi.1 hq with rfl|hq
  ·rfl
  ·have:∀(cs:List Cl) (is:List (Option Nat)),∀q∈X7 cs is,q.2.ro=false:=fun cs=>by
    induction cs with
    | nil=>intro is q h; cases h
    | cons c cs ih =>
     intro is q h;cases is with
     | nil=>cases h
     | cons i is =>
      rcases zo.1 h with h|h
      ·cases i with
       | none=>cases h
       | some i=>simp only[idB,xm] at h; subst h; rfl
      ·exact ih is q h
   exact this _ _ q hq
theorem A0C{y:Nat}{b:Option Bx}{L:List (Nat×Option Bx)}:bk ((y,b)::L) y=b:=by simp[bk]
theorem B47(s:F1)(e:Ev)(id:Nat)(h:fSt s≠0):A2 Tryz.prog 63 [B4 s,N5 e] [] id (.tup [eS0,.int .i64 (fSt s)]) []:=by
 have hC:=fun id=>R6 s id;unfold B4 N5 eS0 at *;refine w63.e.1 fun E hP hR hl hid=>?_;simp[w63];(refine yH rfl (hC _) ?_; simp);refine D5 (by simpa using h) ?_;simp;exact yP hR
theorem B2g(s:F1)(e:Ev)(id:Nat)(h:fSt s=0)(he:T9 s e≠0):A2 Tryz.prog 63 [B4 s,N5 e] [] id (.tup [eS0,.int .i64 (T9 s e)]) []:=by
 obtain⟨hr,hs,hl⟩:=A8p h;have hC:=fun id=>R6 s id;have h6:∀x∈s.things,x.cells.length<=16/\∀c∈x.cells,c.ids.length<=1000:=fun x hx=>by
  have h1:=(hr.tg x hx).cells6 hr.sch;refine⟨by omega,fun c hc=>?_⟩;obtain⟨k,hk⟩:=yk.1 hc;obtain⟨f,_,hco⟩:=(hr.tg x hx).cellOk hk;have:=hco.i1; omega
 have h5:=hr.sch.len;have h12:=hr.len;have hW:∀id,A2 Tryz.prog 117 [B4 s] [] id (.agg [.sl (s.types.map H6),.bsl id 0 s.things.length]) ((id,some ⟨L6 id s.things s.things.length,zT,false,false⟩)::I8 id s.things s.things.length):=fun id=>A7o s id (by omega) (fun t ht=>by have:=hr.sch.fields t ht; omega) h12 h6;have h16:∀x∈s.things,x.cells.length<=16:=fun x hx=>(h6 x hx).1;have hkey:∀t,∀q∈I8 t s.things s.things.length,t+1<=q.1/\q.1<t+1000:=fun t q hq=>by
  obtain⟨y,b⟩:=q;rcases d0 h16 hq with⟨j,h1,h2⟩|⟨j,m,h1,h2,h3⟩<;>simp only<;>omega
 have hRw:∀t id,t+1000<=id->A2 Tryz.prog 126 [.agg [.sl (s.types.map H6),.bsl t 0 s.things.length],N5 e] (trB t (Y6 t 0 s.things)) id (.tup [eS0,.int .i64 (T9 s e)]) []:=fun t id ht=>by
  have:=B0j (l:=s.types) (S:=Y6 t 0 s.things) (T:=t) (e:=e) (id:=id) (B2e h16 h12) (fun z hz=>by have:=A6U h16 h12 z hz; omega) (A6T t s.things 0) (by rw[A2Q]; exact hr) (by rw[A2Q]; exact he);rw[A2Q,A0j] at this;exact this
 unfold B4 N5 eS0 at *;refine w63.e.1 fun E hP hR hl hid=>?_;simp[w63];have hsk:∀L z,z<E.n0+10240->bk (f8 L (I8 (E.n0+10240) s.things s.things.length)) z=bk L z:=fun L z hz=>by
  rw[A04];exact V3 fun q hq=>by have:=hkey _ q hq; omega
 have hin:∀L,∀q∈trB (E.n0+10240) (Y6 (E.n0+10240) 0 s.things),bk (f8 ((E.n0+10240,some ⟨L6 (E.n0+10240) s.things s.things.length,zT,false,false⟩)::L) (I8 (E.n0+10240) s.things s.things.length)) q.1=some q.2:=fun L q hq=>by
  have hm:=B2d hq;rw[A04];rcases zi.1 hm with hm|hm
  ·injection hm with h1 h2
   rw[V3 fun q' hq'=>by have:=hkey _ q' hq'; omega,h1,h2];exact A0C
  ·exact A47 (M7 (S:=fun _=>True) h16 s.things.length h12 (fun _ _=>trivial) fun _ _ _ _=>trivial).nd hm
 (refine yH rfl (hC _) ?_; simp);refine A0 (by simpa using h) ?_;simp;refine C6 hP rfl (hW _) (by simp) (by simp) ?_;refine A6 4 ?_;simp[hsk];refine C6 hP rfl (hRw (E.n0+10240) _ (by simp)) (by simp) (X2.of (hin _)) ?_;refine A6 18 ?_;simp[hsk];refine⟨⟨A0B fun q hq=>by have:=hkey _ q hq; simp; omega,A0B fun q hq=>by simp⟩,?_⟩;refine A23 (H0.deep 4 [(E.n0+2048,⟨[.agg [.nils,.nils]],.agg [.nils,.nils],false,false⟩)] (x:=.ptr (E.n0+2048) 0 0) (y:=.cptr [.nils,.nils]) rfl (fun q hq=>?_) ?_ fun q hq=>?_) ?_
 ·simp only[xm] at hq;subst hq;exact⟨A0C,rfl⟩
 ·exact .ptr _ _ (.agg [.nils,.nils]) _ (xm.2 rfl) rfl rfl fun j c d h1 h2=>by
   have h1:[AV.nils,AV.nils][j]?=some c:=h1;rw[h1] at h2; injection h2 with h2; subst h2; exact .same _
 ·rcases zi.1 hq with rfl|hq
  ·simp only; omega
  ·rcases A0y hq with hq|hq
   ·simp only[zi,ym,or_false] at hq;rcases hq with rfl|rfl|rfl|rfl<;>simp only<;>omega
   ·have:=hkey _ q hq; omega
 ·refine A6 5 ?_;simp;exact yP hR
theorem A6V(s:F1)(e:Ev)(id:Nat)(h:fSt s=0)(he:T9 s e=0):A2 Tryz.prog 63 [B4 s,N5 e] [] id (.tup [B4 (A0M s e),.int .i64 0]) []:=by
 obtain⟨hr,hs,hl⟩:=A8p h;have hC:=fun id=>R6 s id;have h6:∀x∈s.things,x.cells.length<=16/\∀c∈x.cells,c.ids.length<=1000:=fun x hx=>by
  have h1:=(hr.tg x hx).cells6 hr.sch;refine⟨by omega,fun c hc=>?_⟩;obtain⟨k,hk⟩:=yk.1 hc;obtain⟨f,_,hco⟩:=(hr.tg x hx).cellOk hk;have:=hco.i1; omega
 have h5:=hr.sch.len;have h12:=hr.len;have hW:∀id,A2 Tryz.prog 117 [B4 s] [] id (.agg [.sl (s.types.map H6),.bsl id 0 s.things.length]) ((id,some ⟨L6 id s.things s.things.length,zT,false,false⟩)::I8 id s.things s.things.length):=fun id=>A7o s id (by omega) (fun t ht=>by have:=hr.sch.fields t ht; omega) h12 h6;have h16:∀x∈s.things,x.cells.length<=16:=fun x hx=>(h6 x hx).1;have hkey:∀t,∀q∈I8 t s.things s.things.length,t+1<=q.1/\q.1<t+1000:=fun t q hq=>by
  obtain⟨y,b⟩:=q;rcases d0 h16 hq with⟨j,h1,h2⟩|⟨j,m,h1,h2,h3⟩<;>simp only<;>omega
 have hRw:∀t id,t+1000<=id->∃T' S' wr,A5X s.types (Y6 t 0 s.things) t e id T' S' wr:=fun t id ht=>B2a (l:=s.types) (S:=Y6 t 0 s.things) (T:=t) (e:=e) (id:=id) (B2e h16 h12) (fun z hz=>by have:=A6U h16 h12 z hz; omega) (A6T t s.things 0) (by rw[A2Q]; exact hr) (by rw[A2Q]; exact he);unfold B4 N5 at *;refine w63.e.1 fun E hP hR hl hid=>?_;simp[w63];have hsk:∀L z,z<E.n0+10240->bk (f8 L (I8 (E.n0+10240) s.things s.things.length)) z=bk L z:=fun L z hz=>by
  rw[A04];exact V3 fun q hq=>by have:=hkey _ q hq; omega
 have hin:∀L,∀q∈trB (E.n0+10240) (Y6 (E.n0+10240) 0 s.things),bk (f8 ((E.n0+10240,some ⟨L6 (E.n0+10240) s.things s.things.length,zT,false,false⟩)::L) (I8 (E.n0+10240) s.things s.things.length)) q.1=some q.2:=fun L q hq=>by
  have hm:=B2d hq;rw[A04];rcases zi.1 hm with hm|hm
  ·injection hm with h1 h2
   rw[V3 fun q' hq'=>by have:=hkey _ q' hq'; omega,h1,h2];exact A0C
  ·exact A47 (M7 (S:=fun _=>True) h16 s.things.length h12 (fun _ _=>trivial) fun _ _ _ _=>trivial).nd hm
 obtain⟨T',S',wr,hf,ht,hst⟩:=hRw (E.n0+10240) (E.n0+12288) (by omega);rw[A2Q] at hst;rw[A0j] at hf;have hRs:A0M s e=⟨s.types,S'.map D2.t⟩:=hst.symm;rw[hRs] at hR;unfold N5 at hf;have hwk:∀q∈wr,E.n0+10240<=q.1:=fun q hq=>by
  rcases ht.kw q hq with h|h
  ·have:=A6U h16 h12 _ h; omega
  ·omega
 have hsk2:∀L z,z<E.n0+10240->bk (f8 L wr) z=bk L z:=fun L z hz=>by
  rw[A04];exact V3 fun q hq=>by have:=hwk q hq; omega
 (refine yH rfl (hC _) ?_; simp);refine A0 (by simpa using h) ?_;simp;refine C6 hP rfl (hW _) (by simp) (by simp) ?_;refine A6 4 ?_;simp[hsk];refine C6 hP rfl hf (by simp) (X2.of (hin _)) ?_;refine A6 18 ?_;simp[hsk,hsk2];refine⟨⟨A0B fun q hq=>by have:=hkey _ q hq; simp; omega,A0B fun q hq=>by simp⟩,?_⟩;refine A23 (H0.deep 4 ((E.n0+2048,⟨[.agg [.sl (s.types.map H6),.bsl T' 0 S'.length]],.agg [.nils,.nils],false,false⟩)::trB T' S') (x:=.ptr (E.n0+2048) 0 0) (y:=.cptr [.sl (s.types.map H6),.sl ((S'.map D2.t).map M5)]) rfl (fun q hq=>?_) ?_ fun q hq=>?_) ?_
 ·rcases zi.1 hq with rfl|hq
  ·exact⟨A0C,rfl⟩
  ·refine⟨?_,B5N q hq⟩;have hne:q.1≠E.n0+2048:=by
    rcases ht.nm q.1 (yi.2 ⟨q,hq,rfl⟩) with h|h
    ·have:=A6U h16 h12 _ h; omega
    ·omega
   rw[A0q hne,A04];exact ht.has _ (hin _) q hq
 ·refine .ptr _ _ (.agg [.sl (s.types.map H6),.bsl T' 0 S'.length]) _ (zb ..) rfl rfl fun j c d h1 h2=>?_;match j,h1,h2 with
  | 0,h1,h2 =>
   injection h1 with h1; injection h2 with h2
   subst h1 h2; exact .same _
  | 1,h1,h2 =>
   injection h1 with h1; injection h2 with h2
   subst h1 h2;exact A5T ht.ok (za _ (zb ..)) fun q hq=>za _ (za _ hq)
  | j+2,h1,h2=>simp[AV.cells] at h1
 ·rcases zi.1 hq with rfl|hq
  ·simp only; omega
  ·rcases A0y hq with hq|hq
   ·rcases A0y hq with hq|hq
    ·simp only[zi,ym,or_false] at hq;rcases hq with rfl|rfl|rfl|rfl<;>simp only<;>omega
    ·have:=hkey _ q hq; omega
   ·have:=hwk q hq; omega
 ·refine A6 5 ?_;simp;have hp:E7 (List.map (M5∘D2.t) S')=true:=D6 (f:=M5∘D2.t) (fun o=>A3x o.t) S';rw[hR]; exact H2 (by simp<;>rfl) [] trivial (X3 (by simp) (by simp[hp]) (by simp))
theorem B6B(s:F1)(e:Ev)(id:Nat):A2 Tryz.prog 63 [B4 s,N5 e] [] id (.tup [B2f s e,.int .i64 (y9 s e)]) []:=by
 by_cases h:fSt s=0
 ·have e1:y9 s e=T9 s e:=by unfold y9; rw[zh (by simpa using h)]
  unfold B2f;rw[e1];by_cases he:T9 s e=0
  ·rw[zk he,he]; exact A6V s e id h he
  ·rw[zh he]; exact B2g s e id h he
 ·have e1:y9 s e=fSt s:=by unfold y9; rw[zk h]
  unfold B2f;rw[e1,zh h];exact B47 s e id h
def X9(c:Cl):Bool:=(!decide (c.n=0)||!decide (c.text=[]))||!decide (c.ids=[])
def t6(l:List Cl):Bool:=!l.any X9
theorem B0m(c:Cl)(id:Nat):A2 Tryz.prog 265 [t8 c] [] id (.bool (X9 c)) []:=by
 unfold t8;refine w265.e.1 fun E hP hR hl hid=>?_;simp[w265];have hl:decide (0<(c.ids.length:Int))=!decide (c.ids=[]):=by cases c.ids<;>simp<;>omega
 exact yP hR (h1:=by simp; unfold X9; cases h1:decide (c.n=0)<;>cases h2:decide (c.text=[])<;>simp_all)
theorem A4a(l:List Cl)(id:Nat)(hl8:l.length<9223372036854775807):A2 Tryz.prog 301 [.sl (l.map t8),.fn 265 []] [] id (.int .i64 (B7 (fun x=>X9 x) l 0)) []:=by
 refine w301.e.1 fun E hP hR hl hid=>?_;simp[w301];refine C8 (X:=Nat) (fun i=>⟨[(0,true,.sl (l.map t8)),(1,true,.fn 265 []),(7,true,.int .i64 l.length),(8,true,.int .i64 i)],[],0⟩) (fun i=>i<=l.length/\B7 (fun x=>X9 x) (l.drop i) i=B7 (fun x=>X9 x) l 0) (fun i=>l.length - i) 0 ?_ ⟨by omega,rfl⟩ ?_
 ·refine yV [] (by simp) fun hrn=>⟨?_,?_,?_,?_,?_⟩<;>(try simp)
 ·rintro i ⟨hi,hf⟩ p hp;refine A6 4000 ?_;simp;refine C9 (fun h=>?_) (fun h=>?_)
  ·have h:=zp h;obtain⟨x,hx,hd⟩:=B6 h;have hcl:=B0m x;simp only[t8] at hcl;rw[hd] at hf;simp only[B7] at hf;have hi1:IntKind.i64.wrap ((i:Int)+1)=((i+1:Nat):Int):=wrap64 (by omega);simp[hx,t8];refine⟨h,?_⟩;refine P2 hP rfl rfl (hcl _) (by simp) (by simp<;>rfl) ?_;refine A6 4000 ?_;simp;refine C9 (fun h1=>?_) (fun h1=>?_)
   ·simp;rw[zk h1] at hf;exact yP hR (h1:=by simp; exact hf)
   ·simp;rw[zh (by simpa using h1)] at hf;refine hp _ (i+1) ⟨h,hf⟩ (by omega) ?_;refine yV [] (by simp[hi1]) fun hrn=>⟨?_,?_,?_,?_,?_⟩<;>(try simp[hi1])
  ·have h:=zq h;simp;rw[zt (by omega)] at hf;exact yP hR (h1:=by simp; exact hf)
theorem A6W(l:List Cl)(id:Nat)(hl8:l.length<9223372036854775807):A2 Tryz.prog 264 [.sl (l.map t8),.fn 265 []] [] id (.bool (l.any X9)) []:=by
 refine w264.e.1 fun E hP hR hl hid=>?_;simp[w264];(refine yH rfl (A4a l _ hl8) ?_; simp);exact yP hR (h1:=by simp; rw[←S0 (fun x=>X9 x) l 0])
theorem B2h(l:List Cl)(id:Nat)(hl8:l.length<9223372036854775807):A2 Tryz.prog 196 [.sl (l.map t8)] [] id (.bool (t6 l)) []:=by
 refine w196.e.1 fun E hP hR hl hid=>?_;simp[w196];(refine yH rfl (A6W l _ hl8) ?_; simp);exact yP hR (h1:=by simp; simp[t6])
theorem B2i(s:F1)(ty i fd n:Int)(tx:List UInt8)(id:Nat)(h12:s.things.length<=1000): A2 Tryz.prog 127 [B4 s,N5 ⟨1,ty,i,fd,n,tx⟩] [] id (.tup [N5 ⟨2,ty,i,fd,0,[]⟩,.int .i64 0]) []:=by
 have hF:=fun id=>S1 s ty i id (by omega);unfold B4 N5 at *;refine w127.e.1 fun E hP hR hl hid=>?_;simp[w127];(refine yH rfl (hF _) ?_; simp);exact yP hR
theorem B2j(s:F1)(ty i fd n:Int)(tx:List UInt8)(id:Nat)(h12:s.things.length<=1000): A2 Tryz.prog 127 [B4 s,N5 ⟨6,ty,i,fd,n,tx⟩] [] id (.tup [N5 ⟨5,ty,i,fd,n,[]⟩,.int .i64 0]) []:=by
 have hF:=fun id=>S1 s ty i id (by omega);unfold B4 N5 at *;refine w127.e.1 fun E hP hR hl hid=>?_;simp[w127];(refine yH rfl (hF _) ?_; simp);exact yP hR
theorem B2k(s:F1)(ty i fd n:Int)(tx:List UInt8)(id:Nat)(h12:s.things.length<=1000)(t:Tg)(hx:s.things[B3 s.things ty i]?=some t)(h6:t.cells.length<=1000):A2 Tryz.prog 127 [B4 s,N5 ⟨2,ty,i,fd,n,tx⟩] [] id (.tup [if t6 t.cells=true then N5 ⟨1,ty,i,fd,0,[]⟩ else N5 ⟨0,0,0,0,0,[]⟩,.int .i64 (if t6 t.cells=true then 0 else 4)]) []:=by
 have hF:=fun id=>S1 s ty i id (by omega);unfold B4 N5 at *;refine w127.e.1 fun E hP hR hl hid=>?_;simp[w127];(refine yH rfl (hF _) ?_; simp);have hlt:=(ze.1 hx).1;simp[hx,M5];(repeat (refine And.intro (by first|assumption|omega|(simp; omega)|(simp_all; done)) ?_));(refine yC rfl (B2h t.cells _ (by omega)) ?_; simp[hx,M5]);refine C9 (fun h=>?_) (fun h=>?_)<;>simp
 ·have hb:¬(t6 t.cells=true):=by simpa using h
  rw[zh hb,zh hb] at hR;exact yP hR
 ·have hb:t6 t.cells=true:=by simpa using h
  rw[zk hb,zk hb] at hR;exact yP hR
theorem B2l(s:F1)(ty i fd n:Int)(tx:List UInt8)(id:Nat)(h12:s.things.length<=1000)(t:Tg)(hx:s.things[B3 s.things ty i]?=some t)(k:Nat)(hk:fd=k)(c:Cl)(hc:t.cells[k]?=some c):A2 Tryz.prog 127 [B4 s,N5 ⟨3,ty,i,fd,n,tx⟩] [] id (.tup [N5 ⟨3,ty,i,fd,c.n,[]⟩,.int .i64 0]) []:=by
 have hF:=fun id=>S1 s ty i id (by omega);unfold B4 N5 at *;refine w127.e.1 fun E hP hR hl hid=>?_;simp[w127];(refine yH rfl (hF _) ?_; simp);have hlt:=(ze.1 hx).1;have hlc:=(ze.1 hc).1;subst hk;simp[hx,M5,hc,t8];(repeat (refine And.intro (by first|assumption|omega|(simp; omega)|(simp_all; done)) ?_));exact yP hR
theorem B2m(s:F1)(ty i fd n:Int)(tx:List UInt8)(id:Nat)(h12:s.things.length<=1000)(t:Tg)(hx:s.things[B3 s.things ty i]?=some t)(k:Nat)(hk:fd=k)(c:Cl)(hc:t.cells[k]?=some c):A2 Tryz.prog 127 [B4 s,N5 ⟨4,ty,i,fd,n,tx⟩] [] id (.tup [N5 ⟨4,ty,i,fd,0,c.text⟩,.int .i64 0]) []:=by
 have hF:=fun id=>S1 s ty i id (by omega);unfold B4 N5 at *;refine w127.e.1 fun E hP hR hl hid=>?_;simp[w127];(refine yH rfl (hF _) ?_; simp);have hlt:=(ze.1 hx).1;have hlc:=(ze.1 hc).1;subst hk;simp[hx,M5,hc,t8];(repeat (refine And.intro (by first|assumption|omega|(simp; omega)|(simp_all; done)) ?_));exact yP hR
theorem B2n(s:F1)(ty i fd n:Int)(tx:List UInt8)(id:Nat)(h12:s.things.length<=1000)(t:Tg)(hx:s.things[B3 s.things ty i]?=some t)(k:Nat)(hk:fd=k)(c:Cl)(hc:t.cells[k]?=some c)(q:Nat)(hq:ty=q)(y:Ty)(hy:s.types[q]?=some y)(f:Fd)(hf:y.fields[k]?=some f):A2 Tryz.prog 127 [B4 s,N5 ⟨5,ty,i,fd,n,tx⟩] [] id (.tup [if f.kind=3/\c.ids≠[] then N5 ⟨5,ty,i,fd,c.ids.headD 0,[]⟩ else N5 ⟨6,ty,i,fd,n,[]⟩,.int .i64 0]) []:=by
 have hF:=fun id=>S1 s ty i id (by omega);unfold B4 N5 at *;refine w127.e.1 fun E hP hR hl hid=>?_;simp[w127];(refine yH rfl (hF _) ?_; simp);have hlt:=(ze.1 hx).1;have hlc:=(ze.1 hc).1;have hly:=(ze.1 hy).1;have hlf:=(ze.1 hf).1;subst hk hq;simp[hx,M5,hc,t8,hy,hf,H6,M4];(repeat (refine And.intro (by first|assumption|omega|(simp; omega)|(simp_all; done)) ?_));refine C9 (fun h=>?_) (fun h=>?_)
 ·have h3:f.kind=3/\c.ids≠[]:=by
   simp at h;exact⟨h.1,fun e=>by rw[e] at h; simp at h⟩
  obtain⟨m,r,hm⟩:∃m r,c.ids=m::r:=by
   cases hh:c.ids with
   | nil=>exact (h3.2 hh).elim
   | cons m r=>exact⟨m,r,rfl⟩
  rw[zk h3] at hR;rw[hm] at hR;simp[hm,eI];exact yP hR
 ·have h3:¬(f.kind=3/\c.ids≠[]):=fun⟨a,b⟩=>by
   simp[a] at h;exact b h
  rw[zh h3] at hR;simp;exact yP hR
section
variable {l:List Tg} (hl:Srt l) {kind tid:Int} (h2:0<=kind/\kind<=1000) (h4:1<=tid/\tid<=999)
include hl h2 h4
theorem Srt.thereAt(h:C3 l kind tid=true):∃t,l[B3 l kind tid]?=some t/\t.type=kind/\t.id=tid:=by
 simp only[C3,yh,decide_eq_true_eq] at h;obtain⟨hlt,hz⟩:=h;obtain⟨u,hu⟩:∃u,l[B3 l kind tid]?=some u:=⟨_,zd hlt⟩;have hum:=zf hu;simp only[F4,hu] at hz;rw[A1n (hl.ty u hum) (by omega) (hl.id u hum) (by unfold I64; omega)] at hz;exact⟨u,hu,hz⟩
end
/-! Numbers in order. -/
section
variable {l:List Int} (hl:l.Pairwise (· < ·))
include hl
end
theorem A4I{p:Fd->Cl->Bool}:∀{fs:List Fd} {cs:List Cl},P7 p fs cs=true↔∀(k:Nat) f c,fs[k]?=some f->cs[k]?=some c->p f c=true
 | [],cs=>by simp[P7]
 | f::fs,[]=>by simp[P7]
 | f::fs,c::cs=>by
  rw[P7,yh,A4I];constructor
  ·rintro⟨h1,h2⟩ k f' c' hf hc;cases k with
   | zero=>simp at hf hc; subst hf hc; exact h1
   | succ k=>exact h2 k f' c' (by simpa using hf) (by simpa using hc)
  ·intro h;exact⟨h 0 f c rfl rfl,fun k f' c' hf hc=>h (k+1) f' c' (by simpa using hf) (by simpa using hc)⟩
theorem B0n{p:Fd->Cl->Bool}{l:List Ty}{ts:List Tg}:M2 p l ts=true↔∀t∈ts,∀(k:Nat) f c,(C2 l t.type)[k]?=some f->t.cells[k]?=some c->p f c=true:=by
 simp only[M2,yq,A4I]
structure Rt(s:F1):Prop where
 chk:F8 s.types=0
 r:StR s
 srt:Srt s.things
 lnk:∀t∈s.things,∀(k:Nat) f c,(C2 s.types t.type)[k]?=some f->t.cells[k]?=some c->∀x∈c.ids,∃u∈s.things,u.type=A8 s.types f.of/\u.id=x
def B5O(s:F1):Prop:=∀t∈s.things,∀c∈t.cells,∀x∈c.ids,I64 x
theorem A7v{s:F1}(hS:A3v s.types)(hl:Srt s.things){f:Fd}{x:Int}(hx:I64 x):F9 s f x=true↔∃u∈s.things,u.type=A8 s.types f.of/\u.id=x:=by
 unfold F9;rw[hl.findB (B0T hS _) hx,ur];simp[A6L]
theorem B6C{s:F1}(h:fSt s=0)(hI:B5O s):Rt s:=by
 obtain⟨h1,h2,h3⟩:=A8p h;have hc:F8 s.types=0:=by
  unfold fSt at h;split at h
  ·rename_i g; exact (g h).elim
  ·rename_i g; exact zm g
 refine⟨hc,h1,h2,fun t ht k f c hf hk x hx=>?_⟩;have:=B0n.1 h3 t ht k f c hf hk;simp only[vq,List.any_eq_false] at this;have:=this x hx;rw[←A7v h1.sch h2 (hI t ht c (zf hk) x hx)];simpa using this
/-! Events. -/
structure B5P(s:F1)(e:Ev):Prop where
 form:Q2 e=0
 ty0:0<=e.type
 ty1:e.type.toNat<s.types.length
 ty2:e.type<=1000
 id1:1<=e.id
 id2:e.id<=999
 k1:1<=e.kind
 k2:e.kind<=6
 don:doE s e=0
theorem B6c{s:F1}(h:Rt s){e:Ev}(he:T9 s e=0):B5P s e:=by
 unfold T9 at he;by_cases h0:O8 s.types e=0
 ·rw[zh (by simpa using h0)] at he;obtain⟨a1,a2,a3,a4,a5,a6,a7⟩:=V5 h0;have:=h.r.sch.len;exact⟨a1,a2,by omega,by omega,a4,a5,a6,a7,he⟩
 ·rw[zk h0] at he; exact (h0 he).elim
structure B6d(s:F1)(e:Ev)(t:Tg)(f:Fd)(c:Cl):Prop where
 tt:s.things[E6 s e]?=some t
 ty:t.type=e.type
 idn:t.id=e.id
 f0:0<=e.field
 ff:(C2 s.types e.type)[e.field.toNat]?=some f
 cc:t.cells[e.field.toNat]?=some c
 fits:H8 e.kind f=true
 che:O7 s f c e=0
 st:A0M s e=A8o s (E6 s e) e.field.toNat (s9 f c e)
theorem A7w{s:F1}{e:Ev}(he:B5P s e)(hk:e.kind≠1):x9 s e=true:=by
 have hd:=he.don;unfold doE at hd;rw[zh hk] at hd;by_cases b:x9 s e=false
 ·rw[zk b] at hd; omega
 ·simpa using b
theorem B6e{s:F1}(h:Rt s){e:Ev}(he:B5P s e)(hk:3<=e.kind):∃t f c,B6d s e t f c:=by
 have hb:=A7w he (by omega);obtain⟨t,ht,e1,e2⟩:=h.srt.thereAt ⟨he.ty0,he.ty2⟩ ⟨he.id1,he.id2⟩ hb;have hd:=he.don;unfold doE at hd;rw[zh (by omega),zh (by simp[hb]),zh (by omega)] at hd;unfold chE at hd;have ht':s.things[E6 s e]?=some t:=ht;split at hd
 ·rename_i f c hf hc;by_cases hkf:H8 e.kind f=true
  ·rw[zk hkf] at hd;have hst:A0M s e=A8o s (E6 s e) e.field.toNat (s9 f c e):=by
    unfold A0M;rw[zh (by omega),zh (by omega),hf,hc]
   unfold Z1 at hf;by_cases h0:e.field<0
   ·rw[zk h0] at hf; cases hf
   rw[zh h0] at hf;unfold A1r at hc;rw[ht'] at hc;exact⟨t,f,c,ht',e1,e2,by omega,hf,hc,hkf,hd,hst⟩
  ·rw[zh hkf] at hd; omega
 ·omega
def A6X(s:F1)(e:Ev):Int:=if e.kind=2 then (match s.things[E6 s e]? with
 | some t=>if t6 t.cells=true then 0 else 4
 | none=>0) else 0
def B2o(s:F1)(e:Ev):Ev :=
 if e.kind=1 then ⟨2,e.type,e.id,e.field,0,[]⟩ else if e.kind=2 then ⟨1,e.type,e.id,e.field,0,[]⟩
 else match A1r s e,Z1 s e with
  | some c,some f =>
   if e.kind=3 then ⟨3,e.type,e.id,e.field,c.n,[]⟩ else if e.kind=4 then ⟨4,e.type,e.id,e.field,0,c.text⟩
   else if e.kind=5 then (if f.kind=3/\c.ids≠[] then ⟨5,e.type,e.id,e.field,c.ids.headD 0,[]⟩ else ⟨6,e.type,e.id,e.field,e.n,[]⟩)
   else ⟨5,e.type,e.id,e.field,e.n,[]⟩
  | _,_=>e
end Go.Am
