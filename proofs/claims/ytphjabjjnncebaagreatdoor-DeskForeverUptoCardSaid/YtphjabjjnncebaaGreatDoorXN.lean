/- Parts of the proof: an abstract machine for Go functions, and what functions of the program give back (Ra6, Ra7, Ra8, Rd1, Pu1, Pu2, Bf1, Pu3). No condition. -/
import Derived.Test.YtphjabjjnncebaaGreatDoorXM
import Derived.Test.YtphjabjjnncebaaGreatDoorXJ
import Derived.Test.YtphjabjjnncebaaGreatDoorXG
set_option maxRecDepth 100000
set_option linter.all false
namespace Go.Am
open Go Go.Proofs Go.RowKit
def H9(s:I4)(e:Ev):Nat:=C8 s.things e.type e.id
def A3F(s:I4)(e:Ev):Bool:=F7 s.things e.type e.id
def A4t(s:I4)(e:Ev):Option Fd:=if e.field<0 then none else (D8 s.types e.type)[e.field.toNat]?
def B4J(s:I4)(e:Ev):Option Cl:=match s.things[H9 s e]? with
 | some t=>t.cells[e.field.toNat]?
 | none=>none
def chE(s:I4)(e:Ev):Int:=match A4t s e,B4J s e with
 | some f,some c=>if M3 e.kind f=true then X4 s f c e else 7
 | _,_=>5
def doE(s:I4)(e:Ev):Int :=
 if e.kind=1 then (if A3F s e=true then 6 else if s.things.length=12 then 2 else 0)
 else if A3F s e=false then 5 else if e.kind=2 then (if U4 (T8 s.types e) s.types s.things=false then 4 else 0) else chE s e
def A1c(s:I4)(e:Ev):Int:=if s0 s.types e≠0 then s0 s.types e else doE s e
def A6a(s:I4)(i k:Nat)(c:Cl):I4:=⟨s.types,match s.things[i]? with
 | some t=>s.things.set i ⟨t.type,t.id,t.cells.set k c⟩
 | none=>s.things⟩
def A2m(s:I4)(e:Ev):I4 :=
 if e.kind=1 then ⟨s.types,s.things.take (H9 s e)++⟨e.type,e.id,List.replicate (D8 s.types e.type).length cl0⟩::s.things.drop (H9 s e)⟩
 else if e.kind=2 then ⟨s.types,s.things.take (H9 s e)++s.things.drop (H9 s e+1)⟩
 else match A4t s e,B4J s e with
  | some f,some c=>A6a s (H9 s e) e.field.toNat (t8 f c e)
  | _,_=>s
structure StR(s:I4):Prop where
 sch:A6I s.types
 len:s.things.length<=12
 tg:∀t∈s.things,A4B s t
theorem A3G{α:Type}{l:List α}{i:Nat}{x:α}(h:l[i]?=some x):l=l.take i++x::l.drop (i+1):=by
 obtain⟨h1,h2⟩:=List.getElem?_eq_some_iff.1 h;conv=>lhs; rw[←List.take_append_drop i l,List.drop_eq_getElem_cons h1,h2]
theorem y9{l:List Ty}{e:Ev}(h:s0 l e=0):Y8 e=0/\0<=e.type/\e.type<=(l.length:Int) - 1/\1<=e.id/\e.id<=999/\1<=e.kind/\e.kind<=6:=by
 unfold s0 at h;split at h
 ·rename_i h1; exact (h1 h).elim
 ·rename_i h1;split at h
  ·omega
  ·split at h
   ·omega
   ·rename_i h2 h3;have h1:Y8 e=0:=(by omega);have hk:1<=e.kind/\e.kind<=6:=by
     unfold Y8 at h1;split at h1
     ·omega
     ·rename_i h4; omega
    exact⟨h1,by omega,by omega,by omega,by omega,hk.1,hk.2⟩
theorem B5P(l:List Tg)(a b:Int):C8 l a b<=l.length:=(B5I _ _ _ (Nat.zero_le _)).2
theorem B0w{l:List Tg}{a b:Int}(h:F7 l a b=true):C8 l a b<l.length:=by unfold F7 at h; simp at h; exact h.1
section
variable {l:List Ty} {S:List H1} {T:Nat} {e:Ev} {id:Nat} (hnd:(Z6 T S).Nodup) (hfr:∀z∈Z6 T S,z<id\/id+1024<=z) (hok:∀o∈S,o.Ok) (hR:StR (A6 l S))
include hnd hfr hok hR
theorem A4u:l.length<=5/\S.length<=12/\(∀t∈l,t.fields.length<=6)/\∀t∈S.map H1.t,0<=t.type/\t.type.toNat<l.length/\t.cells.length=(D8 l t.type).length/\t.cells.length<=1000000/\∀c∈t.cells,c.ids.length<=6:=by
 refine⟨hR.sch.len,by have:=hR.len; simpa [A6] using this,hR.sch.fields,fun t ht=>?_⟩;have h:=hR.tg t ht;have h6:=h.cells6 hR.sch;refine⟨h.ty0,h.ty1,h.len,by omega,fun c hc=>?_⟩;obtain⟨k,hk⟩:=List.mem_iff_getElem?.1 hc;obtain⟨f,_,hco⟩:=h.cellOk hk;exact hco.i1
theorem A9p(h1 : -1<=e.type/\e.type<=1000)(h2:1<=e.id/\e.id<=999)(hb:A3F (A6 l S) e=true){o:H1}(ho:S[H9 (A6 l S) e]?=some o){ty:Ty}(hty:l[e.type.toNat]?=some ty):o.t.type=e.type/\o.t.id=e.id/\o.t.cells.length=ty.fields.length:=by
 have ht:(A6 l S).things[H9 (A6 l S) e]?=some o.t:=by simp only[A6] at ho ⊢; rw[List.getElem?_map,ho]; rfl
 have hg:=hR.tg o.t (List.mem_of_getElem? ht);have h5:=hR.sch.len;have hz:L8 (A6 l S).things e.type e.id (H9 (A6 l S) e)=0:=by unfold A3F F7 at hb; simp at hb; exact hb.2
 unfold L8 at hz;rw[ht] at hz;have hz:A2S o.t.type o.t.id e.type e.id=0:=hz;have g1:=hg.ty0;have g2:=hg.ty1;have g3:=hg.id1;have g4:=hg.id2;obtain⟨e1,e2⟩:=(A4s (by omega) (by omega) (by omega) (by unfold I64; omega)).1 hz;refine⟨e1,e2,?_⟩;have:=hg.len;rw[e1] at this;have hfl:D8 (A6 l S).types e.type=ty.fields:=by simp[D8,A6,hty]
 rw[this,hfl]
omit hfr hok hR in
theorem B9F{o:H1}(ho:o∈S){I:Nat}{b:Bx}(h:(I,b)∈A0D o.t.cells o.is):o.c≠I:=fun e=>by
 rw[Z6,List.nodup_cons] at hnd;obtain⟨i,hi⟩:=List.mem_iff_getElem?.1 ho;have hs:=A3G hi;have h2:=hnd.2;rw[hs,A1P,A4q,List.nodup_append,List.nodup_append] at h2;have h3:=h2.2.1.1;rw[nmO,H1.bxs,List.map_cons,List.nodup_cons] at h3;exact h3.1 (e▸List.mem_map.2 ⟨_,h,rfl⟩)
theorem A9q(h:A1c (A6 l S) e≠0):A2 Tryz.prog 126 [.agg [.sl (l.map J3),.bsl T 0 S.length],R4 e] (v7 T S) id (.tup [eS0,.int .i64 (A1c (A6 l S) e)]) []:=by
 obtain⟨q1,q2,q3,q4⟩:=A4u hnd hfr hok hR;have hE0:A1c (A6 l S) e=if s0 l e≠0 then s0 l e else doE (A6 l S) e:=rfl
 rw[hE0] at h ⊢;by_cases h0:s0 l e≠0
 ·rw[if_pos h0];exact (B94 l e T S.length id (by omega) h0).more fun q hq=>by cases hq
 rw[if_neg h0] at h ⊢;obtain⟨hf0,a1,a2,a3,a4,a5,a6⟩:=y9 (by omega:s0 l e=0);have hty:e.type.toNat<l.length:=by omega
 obtain⟨ty,htya⟩:∃ty,l[e.type.toNat]?=some ty:=⟨_,List.getElem?_eq_getElem hty⟩;have hfl:D8 l e.type=ty.fields:=by simp[D8,htya]
 have hf6:ty.fields.length<=6:=q3 ty (List.mem_of_getElem? htya);have hds:doE (A6 l S) e=doE (A6 l S) e:=rfl;have hdo:∀D id,(∀q∈v7 T S,q.1≠D)->A2 Tryz.prog 195 [.ptr D 0 0] ((D,R5 l (.bsl T 0 S.length) e 0)::v7 T S) id (.int .i64 (doE (A6 l S) e)) [(D,some (R5 l (.bsl T 0 S.length) e (H9 (A6 l S) e)))]:=fun D id hD=>by
  have d1:D≠T:=fun e=>hD _ (List.mem_cons_self ..) e.symm;have dr:∀q∈I5 S,q.1≠D:=fun q hq=>hD q (List.mem_cons_of_mem _ hq);have hnd':=hnd;rw[Z6,List.nodup_cons] at hnd';have dT:∀q∈I5 S,q.1≠T:=fun q hq e=>hnd'.1 (e▸A5l hq);have hm2:∀q∈[(D,R5 l (.bsl T 0 S.length) e 0),(T,P0 S)],q∈(D,R5 l (.bsl T 0 S.length) e 0)::v7 T S:=fun q hq=>by
   simp only[List.mem_cons,List.not_mem_nil,or_false] at hq;rcases hq with rfl|rfl
   ·exact List.mem_cons_self ..
   ·exact List.mem_cons_of_mem _ (List.mem_cons_self ..)
  have hll:(A6 l S).things.length=S.length:=List.length_map ..;by_cases k1:e.kind=1
  ·have hE:doE (A6 l S) e=if A3F (A6 l S) e=true then 6 else if S.length=12 then 2 else 0:=(by unfold doE; rw[if_pos k1,hll]);rw[hE] at h ⊢;refine (B91 l S e 0 D T id _ ?_ (by omega) d1).more hm2;by_cases b:A3F (A6 l S) e=true
   ·exact .inl ⟨k1,b,if_pos b⟩
   ·rw[if_neg b] at h ⊢;by_cases b2:S.length=12
    ·exact .inr (.inl ⟨k1,eq_false_of_ne_true b,b2,if_pos b2⟩)
    ·rw[if_neg b2] at h; exact (h rfl).elim
  ·by_cases b:A3F (A6 l S) e=false
   ·have hE:doE (A6 l S) e=5:=(by unfold doE; rw[if_neg k1,if_pos b]);rw[hE];exact (B91 l S e 0 D T id _ (.inr (.inr ⟨k1,b,rfl⟩)) (by omega) d1).more hm2
   ·have b':A3F (A6 l S) e=true:=(by simpa using b);by_cases k2:e.kind=2
    ·have hE:doE (A6 l S) e=if U4 (T8 l e) l (S.map H1.t)=false then 4 else 0:=(by unfold doE; rw[if_neg k1,if_neg b,if_pos k2]; rfl);rw[hE] at h ⊢;by_cases m:U4 (T8 l e) l (S.map H1.t)=false
     ·rw[if_pos m];exact B93 l S e 0 D T id k2 b' hok (by omega) (by omega) d1 hnd'.2 dr dT q4 m
     ·rw[if_neg m] at h; exact (h rfl).elim
    ·have hE:doE (A6 l S) e=chE (A6 l S) e:=(by unfold doE; rw[if_neg k1,if_neg b,if_neg k2]);rw[hE] at h ⊢;have hlt:=B0w b';obtain⟨o,ho⟩:∃o,S[H9 (A6 l S) e]?=some o:=⟨_,List.getElem?_eq_getElem (hll▸hlt)⟩;have hoS:=List.mem_of_getElem? ho;have hot:=q4 o.t (List.mem_map.2 ⟨o,hoS,rfl⟩);have hlen:=(A9p hnd hfr hok hR (by omega) (by omega) b' ho htya).2.2;have hbx:∀q∈o.bxs,q∈I5 S:=fun q hq=>List.mem_flatMap.2 ⟨o,hoS,hq⟩;have dc:o.c≠D/\o.c≠T:=⟨dr _ (hbx _ (List.mem_cons_self ..)),dT _ (hbx _ (List.mem_cons_self ..))⟩;have his:=(hok o hoS).len;have hm3:∀q∈[(D,R5 l (.bsl T 0 S.length) e 0),(T,P0 S),(o.c,cBn o)],q∈(D,R5 l (.bsl T 0 S.length) e 0)::v7 T S:=fun q hq=>by
      simp only[List.mem_cons,List.not_mem_nil,or_false] at hq;rcases hq with rfl|rfl|rfl
      ·exact List.mem_cons_self ..
      ·exact List.mem_cons_of_mem _ (List.mem_cons_self ..)
      ·exact List.mem_cons_of_mem _ (List.mem_cons_of_mem _ (hbx _ (List.mem_cons_self ..)))
     have k3:3<=e.kind:=(by omega);have fin5:A4t (A6 l S) e=none->A2 Tryz.prog 195 [.ptr D 0 0] ((D,R5 l (.bsl T 0 S.length) e 0)::v7 T S) id (.int .i64 (chE (A6 l S) e)) [(D,some (R5 l (.bsl T 0 S.length) e (H9 (A6 l S) e)))]:=fun hfd=>by
      have hw:chE (A6 l S) e=5:=(by unfold chE; rw[hfd]);rw[hw];have hfr:r8 ty e o.c = .tup [.agg [.str [],.int .i64 0,.str []],.nilp,.int .i64 5]:=by
       unfold A4t at hfd;unfold r8;by_cases h5:e.field<0
       ·rw[if_pos h5]
       ·rw[if_neg h5] at hfd ⊢;have hfd:(D8 l e.type)[e.field.toNat]?=none:=hfd;rw[hfl] at hfd;rw[hfd]
      exact (B0v l S e 0 D T o.c id (List.zipWith L9 o.t.cells o.is) 5 k3 b' (by omega) d1 dc.1.symm dc.2.symm fun id=>A80 l S e (H9 (A6 l S) e) o ty D T id _ 5 (by omega) ⟨_,_,_,rfl⟩ hfr htya a1 ho hlen his (by omega) d1 dc.1.symm dc.2.symm).more hm3
     cases hfd:A4t (A6 l S) e with
     | none=>exact fin5 hfd
     | some f =>
      clear fin5;have hfd':=hfd;unfold A4t at hfd;by_cases h5:e.field<0
      ·rw[if_pos h5] at hfd; cases hfd
      rw[if_neg h5] at hfd;have hfd:(D8 l e.type)[e.field.toNat]?=some f:=hfd;rw[hfl] at hfd;have hkl:e.field.toNat<ty.fields.length:=(List.getElem?_eq_some_iff.1 hfd).1;obtain⟨cl,hcl⟩:∃cl,o.t.cells[e.field.toNat]?=some cl:=⟨_,List.getElem?_eq_getElem (by omega)⟩;obtain⟨io,hio⟩:∃io,o.is[e.field.toNat]?=some io:=⟨_,List.getElem?_eq_getElem (by omega)⟩;have hclo:B4J (A6 l S) e=some cl:=by
       unfold B4J;have:(A6 l S).things[H9 (A6 l S) e]?=some o.t:=by simp only[A6] at ho ⊢; rw[List.getElem?_map,ho]; rfl
       rw[this];exact hcl
      have hchE:chE (A6 l S) e=if M3 e.kind f=true then X4 (A6 l S) f cl e else 7:=(by unfold chE; rw[hfd',hclo]);rw[hchE] at h ⊢;by_cases hkf:M3 e.kind f=true
      ·rw[if_pos hkf] at h ⊢;have hc8:cl.ids.length<=1000:=(by have:=hot.2.2.2.2 cl (List.mem_of_getElem? hcl); omega);cases io with
       | none =>
        have hn:=(hok o hoS).nil _ _ hcl hio;have hW:∀id,Q6 (A6 l S) f cl e o.c e.field.toNat id (List.zipWith L9 o.t.cells o.is) none=[]:=fun id=>by unfold Q6; rw[if_pos h]
        refine (B0v l S e 0 D T o.c id (List.zipWith L9 o.t.cells o.is) _ k3 b' (by omega) d1 dc.1.symm dc.2.symm fun id=>?_).more hm3;have:=A3D l S e (H9 (A6 l S) e) o ty f cl D T id k3 a6 (by omega) hfd hkf hcl hio htya a1 ho hlen his hn (by omega) (by omega) (by omega) hc8 d1 dc.1.symm dc.2.symm;rw[hW] at this;exact this
       | some I =>
        have hIm:(I,iBx cl)∈o.bxs:=List.mem_cons_of_mem _ (A4p _ hcl hio _ (List.mem_cons_self ..));have hIr:=hbx _ hIm;have hW:∀id,Q6 (A6 l S) f cl e o.c e.field.toNat id (List.zipWith L9 o.t.cells o.is) (some I)=[]:=fun id=>by unfold Q6; rw[if_pos h]
        have dI:D≠I/\T≠I/\o.c≠I:=⟨fun e=>dr _ hIr e.symm,fun e=>dT _ hIr e.symm,B9F hnd hoS (A4p _ hcl hio _ (List.mem_cons_self ..))⟩;refine (B9C l S e 0 D T o.c id (List.zipWith L9 o.t.cells o.is) _ I cl.ids dI.1 dI.2.1 dI.2.2 k3 b' (by omega) d1 dc.1.symm dc.2.symm fun id=>?_).more fun q hq=>?_
        ·have:=A1O l S e (H9 (A6 l S) e) o ty f cl I D T id k3 a6 (by omega) hfd hkf hcl hio htya a1 ho hlen his (by omega) (by omega) (by omega) hc8 d1 dc.1.symm dc.2.symm dI.1 dI.2.1 dI.2.2;rw[hW] at this;exact this
        ·simp only[List.mem_cons,List.not_mem_nil,or_false] at hq;rcases hq with rfl|rfl|rfl|rfl
         ·exact List.mem_cons_self ..
         ·exact List.mem_cons_of_mem _ (List.mem_cons_self ..)
         ·exact List.mem_cons_of_mem _ (List.mem_cons_of_mem _ (hbx _ (List.mem_cons_self ..)))
         ·exact List.mem_cons_of_mem _ (List.mem_cons_of_mem _ hIr)
      ·rw[if_neg hkf];have hfr:r8 ty e o.c = .tup [S7 f,.nilp,.int .i64 7]:=(by unfold r8; rw[if_neg h5,hfd]; simp only; rw[if_neg hkf]);exact (B0v l S e 0 D T o.c id (List.zipWith L9 o.t.cells o.is) 7 k3 b' (by omega) d1 dc.1.symm dc.2.symm fun id=>A80 l S e (H9 (A6 l S) e) o ty D T id _ 7 (by omega) ⟨_,_,_,rfl⟩ hfr htya a1 ho hlen his (by omega) d1 dc.1.symm dc.2.symm).more hm3
 exact B99 l S e T id _ _ (v7 T S) (by rw[B6v]; exact hnd) h (by omega) hf0 a1 a2 a3 a4 hdo
end
structure B2o(l:List Ty)(S:List H1)(T:Nat)(e:Ev)(id:Nat)(T':Nat)(S':List H1)(wr:List (Nat×Option Bx)):Prop where
 fn:A2 Tryz.prog 126 [.agg [.sl (l.map J3),.bsl T 0 S.length],R4 e] (v7 T S) id (.tup [.agg [.sl (l.map J3),.bsl T' 0 S'.length],.int .i64 0]) wr
 tree:A5m id T S wr T' S'
 st:A6 l S'=A2m (A6 l S) e
section
variable {l:List Ty} {S:List H1} {T:Nat} {e:Ev} {id:Nat} (hnd:(Z6 T S).Nodup) (hfr:∀z∈Z6 T S,z<id\/id+1024<=z) (hok:∀o∈S,o.Ok) (hR:StR (A6 l S))
include hnd hfr hok hR
omit hnd hfr hok hR in
theorem A2X(h:A1c (A6 l S) e=0):s0 l e=0/\doE (A6 l S) e=0:=by
 have hE0:A1c (A6 l S) e=if s0 l e≠0 then s0 l e else doE (A6 l S) e:=rfl
 rw[hE0] at h;by_cases h0:s0 l e=0
 ·rw[if_neg (by simp[h0])] at h; exact⟨h0,h⟩
 ·rw[if_pos h0] at h; exact (h0 h).elim
theorem B9G(k1:e.kind=1)(h:A1c (A6 l S) e=0):∃T' S' wr,B2o l S T e id T' S' wr:=by
 obtain⟨q1,q2,q3,q4⟩:=A4u hnd hfr hok hR;obtain⟨h0,h⟩:=A2X h;obtain⟨hf0,a1,a2,a3,a4,a5,a6⟩:=y9 h0;have hty:e.type.toNat<l.length:=by omega
 obtain⟨ty,htya⟩:∃ty,l[e.type.toNat]?=some ty:=⟨_,List.getElem?_eq_getElem hty⟩;have hfl:D8 l e.type=ty.fields:=by simp[D8,htya]
 have hf6:ty.fields.length<=6:=q3 ty (List.mem_of_getElem? htya);have hll:(A6 l S).things.length=S.length:=List.length_map ..;have hE:doE (A6 l S) e=if A3F (A6 l S) e=true then 6 else if S.length=12 then 2 else 0:=by unfold doE; rw[if_pos k1,hll]
 rw[hE] at h;by_cases b:A3F (A6 l S) e=true
 ·rw[if_pos b] at h; omega
 rw[if_neg b] at h;by_cases b2:S.length=12
 ·rw[if_pos b2] at h; omega
 have hi:H9 (A6 l S) e<=S.length:=hll▸B5P ..;have hii:C8 (S.map H1.t) e.type e.id=H9 (A6 l S) e:=rfl;have hbf:F7 (S.map H1.t) e.type e.id=false:=eq_false_of_ne_true b;have ft:=B6x (id:=id) (T:=T) (A:=S.take (H9 (A6 l S) e)) (B:=S.drop (H9 (A6 l S) e)) e ty.fields.length (by rw[List.take_append_drop]; exact hnd) (by rw[List.take_append_drop]; exact hfr) (by rw[List.take_append_drop]; exact hok);rw[List.take_append_drop] at ft;have hlen:(S.take (H9 (A6 l S) e)++A4r e ty.fields.length id::S.drop (H9 (A6 l S) e)).length=S.length+1:=by simp; omega
 have hxs:P0 (S.take (H9 (A6 l S) e)++A4r e ty.fields.length id::S.drop (H9 (A6 l S) e))=⟨(S.map V8).take (H9 (A6 l S) e)++.agg [.int .i64 e.type,.int .i64 e.id,.bsl (id+1) 0 ty.fields.length]::(S.map V8).drop (H9 (A6 l S) e),zT,false,false⟩:=by
  simp[P0,List.map_take,List.map_drop,V8,A4r]
 refine⟨id,_,_,⟨?_,ft,?_⟩⟩
 ·rw[hlen,hxs];refine (B95 l S e T id (H9 (A6 l S) e) ty.fields.length (H9 (A6 l S) e) (by omega) hf0 a1 a2 a3 a4 fun D id hD=>?_).more fun q hq=>by
   simp only[List.mem_cons,List.not_mem_nil,or_false] at hq;subst hq;exact List.mem_cons_self ..
  have:=C1f l S e 0 ty D T id k1 hbf b2 htya a1 (by omega) (by omega) (fun e=>hD _ (List.mem_cons_self ..) e.symm);rw[hii] at this;exact this
 ·unfold A2m;rw[if_pos k1];simp[A6,A4r,List.map_take,List.map_drop,hfl]
theorem B9H(k2:e.kind=2)(h:A1c (A6 l S) e=0):∃T' S' wr,B2o l S T e id T' S' wr:=by
 obtain⟨q1,q2,q3,q4⟩:=A4u hnd hfr hok hR;obtain⟨h0,h⟩:=A2X h;obtain⟨hf0,a1,a2,a3,a4,a5,a6⟩:=y9 h0;have hll:(A6 l S).things.length=S.length:=List.length_map ..;have k1:e.kind≠1:=by omega
 by_cases b:A3F (A6 l S) e=false
 ·have hE:doE (A6 l S) e=5:=by unfold doE; rw[if_neg k1,if_pos b]
  omega
 have b':A3F (A6 l S) e=true:=by simpa using b
 have hE:doE (A6 l S) e=if U4 (T8 l e) l (S.map H1.t)=false then 4 else 0:=by unfold doE; rw[if_neg k1,if_neg b,if_pos k2]; rfl
 rw[hE] at h;by_cases m:U4 (T8 l e) l (S.map H1.t)=false
 ·rw[if_pos m] at h; omega
 have m':U4 (T8 l e) l (S.map H1.t)=true:=by simpa using m
 have hlt:H9 (A6 l S) e<S.length:=hll▸B0w b';obtain⟨o,ho⟩:∃o,S[H9 (A6 l S) e]?=some o:=⟨_,List.getElem?_eq_getElem hlt⟩;have hs:=A3G ho;have hii:C8 (S.map H1.t) e.type e.id=H9 (A6 l S) e:=rfl;have hnd':=hnd;rw[Z6,List.nodup_cons] at hnd';have dT:∀q∈I5 S,q.1≠T:=fun q hq e=>hnd'.1 (e▸A5l hq);have ft:=B6y (id:=id) (T:=T) (A:=S.take (H9 (A6 l S) e)) (B:=S.drop (H9 (A6 l S) e+1)) (o:=o) (by rw[←hs]; exact hnd) (by rw[←hs]; exact hfr) (by rw[←hs]; exact hok);rw[←hs] at ft;have hlen:(S.take (H9 (A6 l S) e)++S.drop (H9 (A6 l S) e+1)).length=S.length - 1:=by simp; omega
 have hxs:P0 (S.take (H9 (A6 l S) e)++S.drop (H9 (A6 l S) e+1))=⟨(S.map V8).take (H9 (A6 l S) e)++(S.map V8).drop (H9 (A6 l S) e+1),zT,false,false⟩:=by
  simp[P0,List.map_take,List.map_drop]
 refine⟨id,_,_,⟨?_,ft,?_⟩⟩
 ·rw[hlen,hxs];refine B9A l S e T id (H9 (A6 l S) e) (H9 (A6 l S) e) (I5 S) hnd'.2 dT (by omega) hf0 a1 a2 a3 a4 fun D id hD=>?_;have:=C1g l S e 0 D T id k2 b' hok (by omega) (by omega) (fun e=>hD _ (List.mem_cons_self ..) e.symm) hnd'.2 (fun q hq=>hD q (List.mem_cons_of_mem _ hq)) dT q4 m';rw[hii] at this;exact this
 ·unfold A2m;rw[if_neg k1,if_pos k2];simp[A6,List.map_take,List.map_drop]
end
theorem B5Q(c:Cl)(i:Option Nat):∀(cs:List Cl) (is:List (Option Nat)) (k:Nat),List.zipWith L9 (cs.set k c) (is.set k i)=(List.zipWith L9 cs is).set k (L9 c i)
 | [],_,_=>by simp
 | _::_,[],_=>by simp
 | _::cs,_::is,0=>by simp
 | _::cs,_::is,k+1=>by simp[B5Q c i cs is k]
theorem B9I{α:Type}{l:List α}{k:Nat}{x:α}(h:l[k]?=some x):l.set k x=l:=by
 obtain⟨h1,rfl⟩:=List.getElem?_eq_some_iff.1 h;exact List.set_getElem_self h1
theorem A9r{c:Cl}{i:Option Nat}:∀{cs:List Cl} {is:List (Option Nat)} {k:Nat},cs[k]?=some c->is[k]?=some i->∃X Y,A0D cs is=X++(idB c i++Y)/\∀c' i',A0D (cs.set k c') (is.set k i')=X++(idB c' i'++Y)
 | [],_,_,h,_=>by simp at h
 | _::_,[],_,_,h=>by simp at h
 | c0::cs,i0::is,0,h1,h2=>by
  simp only[List.getElem?_cons_zero,Option.some.injEq] at h1 h2;subst h1 h2;exact⟨[],A0D cs is,rfl,fun _ _=>rfl⟩
 | c0::cs,i0::is,k+1,h1,h2=>by
  simp only[List.getElem?_cons_succ] at h1 h2;obtain⟨X,Y,e1,e2⟩:=A9r h1 h2;refine⟨idB c0 i0++X,Y,?_,fun c' i'=>?_⟩
  ·rw[A0D,e1,List.append_assoc]
  ·rw[List.set_cons_succ,List.set_cons_succ,A0D,e2,List.append_assoc]
def A5n(o:H1)(k:Nat)(c:Cl)(io:Option Nat):H1:=⟨⟨o.t.type,o.t.id,o.t.cells.set k c⟩,o.c,o.is.set k io⟩
theorem B5R{o:H1}{k:Nat}{c:Cl}{io:Option Nat}(h:o.Ok)(hn:io=none->c.ids=[]):(A5n o k c io).Ok:=by
 refine⟨by simpa [A5n] using h.len,fun j d h1 h2=>?_⟩;simp only[A5n] at h1 h2;rw[List.getElem?_set] at h1 h2;by_cases hj:k=j
 ·subst hj;rw[if_pos rfl] at h1 h2;split at h1
  ·split at h2
   ·injection h1 with h1; injection h2 with h2; subst h1; exact hn h2
   ·cases h2
  ·cases h1
 ·rw[if_neg hj] at h1 h2;exact h.nil _ _ h1 h2
theorem B2p(o:H1)(k:Nat)(c:Cl)(io:Option Nat):V8 (A5n o k c io)=V8 o:=by simp[V8,A5n]
theorem B2q(o:H1)(k:Nat)(c:Cl)(io:Option Nat):cBn (A5n o k c io)=⟨(List.zipWith L9 o.t.cells o.is).set k (L9 c io),zC,false,false⟩:=by
 simp only[cBn,A5n,B5Q]
section
variable {l:List Ty} {S:List H1} {T:Nat} {e:Ev} {id:Nat} (hnd:(Z6 T S).Nodup) (hfr:∀z∈Z6 T S,z<id\/id+1024<=z) (hok:∀o∈S,o.Ok) (hR:StR (A6 l S))
theorem B5S{i k:Nat}{o:H1}(ho:S[i]?=some o){c:Cl}{io:Option Nat}{wr:List (Nat×Option Bx)}(hs:A2m (A6 l S) e=A6a (A6 l S) i k c)
  (hf:A2 Tryz.prog 126 [.agg [.sl (l.map J3),.bsl T 0 S.length],R4 e] (v7 T S) id (.tup [.agg [.sl (l.map J3),.bsl T 0 S.length],.int .i64 0]) wr)
  (ht:A5m id T (S.take i++o::S.drop (i+1)) wr T (S.take i++A5n o k c io::S.drop (i+1))):∃T' S' wr,B2o l S T e id T' S' wr:=by
 rw[←A3G ho] at ht;have hi:=(List.getElem?_eq_some_iff.1 ho).1;have hset:S.set i (A5n o k c io)=S.take i++A5n o k c io::S.drop (i+1):=by rw[List.set_eq_take_append_cons_drop,if_pos hi]
 rw[←hset] at ht;refine⟨T,_,wr,⟨?_,ht,?_⟩⟩
 ·rw[List.length_set]; exact hf
 ·rw[hs];unfold A6a;have:(A6 l S).things[i]?=some o.t:=by simp only[A6]; rw[List.getElem?_map,ho]; rfl
  rw[this];simp only[A6,List.map_set];rfl
include hnd hfr hok hR
theorem C1l(k3:3<=e.kind)(h:A1c (A6 l S) e=0):∃T' S' wr,B2o l S T e id T' S' wr:=by
 obtain⟨q1,q2,q3,q4⟩:=A4u hnd hfr hok hR;obtain⟨h0,h⟩:=A2X h;obtain⟨hf0,a1,a2,a3,a4,a5,a6⟩:=y9 h0;have hty:e.type.toNat<l.length:=by omega
 obtain⟨ty,htya⟩:∃ty,l[e.type.toNat]?=some ty:=⟨_,List.getElem?_eq_getElem hty⟩;have hfl:D8 l e.type=ty.fields:=by simp[D8,htya]
 have hf6:ty.fields.length<=6:=q3 ty (List.mem_of_getElem? htya);have hll:(A6 l S).things.length=S.length:=List.length_map ..;have k1:e.kind≠1:=by omega
 have k2:e.kind≠2:=by omega
 by_cases b:A3F (A6 l S) e=false
 ·have hE:doE (A6 l S) e=5:=by unfold doE; rw[if_neg k1,if_pos b]
  omega
 have b':A3F (A6 l S) e=true:=by simpa using b
 have hE:doE (A6 l S) e=chE (A6 l S) e:=by unfold doE; rw[if_neg k1,if_neg b,if_neg k2]
 rw[hE] at h;have hlt:H9 (A6 l S) e<S.length:=hll▸B0w b';obtain⟨o,ho⟩:∃o,S[H9 (A6 l S) e]?=some o:=⟨_,List.getElem?_eq_getElem hlt⟩;have hs:=A3G ho;have hoS:=List.mem_of_getElem? ho;have hot:=q4 o.t (List.mem_map.2 ⟨o,hoS,rfl⟩);have hlen:=(A9p hnd hfr hok hR (by omega) (by omega) b' ho htya).2.2;have hbx:∀q∈o.bxs,q∈I5 S:=fun q hq=>List.mem_flatMap.2 ⟨o,hoS,hq⟩;have hnd':=hnd;rw[Z6,List.nodup_cons] at hnd';have dT:∀q∈I5 S,q.1≠T:=fun q hq e=>hnd'.1 (e▸A5l hq);have dc:T≠o.c:=fun e=>dT _ (hbx _ (List.mem_cons_self ..)) e.symm;have his:=(hok o hoS).len;have htS:(A6 l S).things[H9 (A6 l S) e]?=some o.t:=by simp only[A6] at ho ⊢; rw[List.getElem?_map,ho]; rfl
 cases hfd:A4t (A6 l S) e with
 | none =>
  have:chE (A6 l S) e=5:=by unfold chE; rw[hfd]
  omega
 | some f =>
 have hfd':=hfd;unfold A4t at hfd;by_cases h5:e.field<0
 ·rw[if_pos h5] at hfd; cases hfd
 rw[if_neg h5] at hfd;have hfd:(D8 l e.type)[e.field.toNat]?=some f:=hfd;rw[hfl] at hfd;have hkl:e.field.toNat<ty.fields.length:=(List.getElem?_eq_some_iff.1 hfd).1;obtain⟨cl,hcl⟩:∃cl,o.t.cells[e.field.toNat]?=some cl:=⟨_,List.getElem?_eq_getElem (by omega)⟩;obtain⟨io,hio⟩:∃io,o.is[e.field.toNat]?=some io:=⟨_,List.getElem?_eq_getElem (by omega)⟩;have hclo:B4J (A6 l S) e=some cl:=by
  unfold B4J;rw[htS];exact hcl
 have hchE:chE (A6 l S) e=if M3 e.kind f=true then X4 (A6 l S) f cl e else 7:=by unfold chE; rw[hfd',hclo]
 rw[hchE] at h;by_cases hkf:M3 e.kind f=true
 case neg=>rw[if_neg hkf] at h; omega
 rw[if_pos hkf] at h;have hrs:A2m (A6 l S) e=A6a (A6 l S) (H9 (A6 l S) e) e.field.toNat (t8 f cl e):=by
  unfold A2m;rw[if_neg k1,if_neg k2,hfd',hclo]
 have hc8:cl.ids.length<=1000:=by have:=hot.2.2.2.2 cl (List.mem_of_getElem? hcl); omega
 have hx:=A6p hcl hio;obtain⟨X,Y,hX1,hX2⟩:=A9r hcl hio;have hn:io=none->cl.ids=[]:=fun hh=>(hok o hoS).nil _ _ hcl (hh▸hio);have hnd2:(Z6 T (S.take (H9 (A6 l S) e)++o::S.drop (H9 (A6 l S) e+1))).Nodup:=by rw[←hs]; exact hnd
 have hfr2:∀z∈Z6 T (S.take (H9 (A6 l S) e)++o::S.drop (H9 (A6 l S) e+1)),z<id\/id+1024<=z:=by rw[←hs]; exact hfr
 have hok2:∀x∈S.take (H9 (A6 l S) e)++o::S.drop (H9 (A6 l S) e+1),x.Ok:=by rw[←hs]; exact hok
 have hm2:∀q∈[(T,P0 S),(o.c,cBn o)],q∈v7 T S:=fun q hq=>by
  simp only[List.mem_cons,List.not_mem_nil,or_false] at hq;rcases hq with rfl|rfl
  ·exact List.mem_cons_self ..
  ·exact List.mem_cons_of_mem _ (hbx _ (List.mem_cons_self ..))
 have hII:∀I,io=some I->(∀D,(∀q∈[(T,P0 S),(o.c,cBn o),(I,iBx cl)],q.1≠D)->D≠I)/\T≠I/\o.c≠I/\∀q∈[(T,P0 S),(o.c,cBn o),(I,iBx cl)],q∈v7 T S:=fun I hI=>by
  subst hI;have hIm:(I,iBx cl)∈A0D o.t.cells o.is:=A4p _ hcl hio _ (List.mem_cons_self ..);have hIr:=hbx _ (List.mem_cons_of_mem _ hIm);refine⟨fun D hD e=>hD (I,iBx cl) (by simp) e.symm,fun e=>dT _ hIr e.symm,B9F hnd hoS hIm,fun q hq=>?_⟩;simp only[List.mem_cons,List.not_mem_nil,or_false] at hq;rcases hq with rfl|rfl|rfl
  ·exact List.mem_cons_self ..
  ·exact List.mem_cons_of_mem _ (hbx _ (List.mem_cons_self ..))
  ·exact List.mem_cons_of_mem _ hIr
 by_cases k4:e.kind=3\/e.kind=4
 ·obtain⟨n',t',hc'⟩:∃n t,t8 f cl e=⟨n,t,cl.ids⟩:=by
   unfold t8;rcases k4 with k|k
   ·exact⟨e.n,cl.text,by rw[if_pos k]⟩
   ·exact⟨cl.n,e.text,by rw[if_neg (by omega),if_pos k]⟩
  rw[hc'] at hrs;have hW:∀id,Q6 (A6 l S) f cl e o.c e.field.toNat id (List.zipWith L9 o.t.cells o.is) io=[(o.c,some ⟨(List.zipWith L9 o.t.cells o.is).set e.field.toNat (L9 ⟨n',t',cl.ids⟩ io),zC,false,false⟩)]:=fun id=>by unfold Q6; rw[if_neg (by simp[h]),if_pos k4,hc']
  have hwr:[(o.c,some (cBn (A5n o e.field.toNat ⟨n',t',cl.ids⟩ io)))]=[(o.c,some (⟨(List.zipWith L9 o.t.cells o.is).set e.field.toNat (L9 ⟨n',t',cl.ids⟩ io),zC,false,false⟩:Bx))]:=by rw[B2q]
  refine B5S (io:=io) ho hrs (wr:=[(o.c,some (cBn (A5n o e.field.toNat ⟨n',t',cl.ids⟩ io)))]) ?_ ?_
  ·rw[hwr];cases io with
   | none =>
    refine (B96 l S e T id o.c (List.zipWith L9 o.t.cells o.is) e.field.toNat _ _ _ hx n' t' dc (H9 (A6 l S) e) (by omega) hf0 a1 a2 a3 a4 fun D id hD=>?_).more hm2;have d1:D≠T:=fun e=>hD _ (List.mem_cons_self ..) e.symm;have d2:D≠o.c:=fun e=>hD _ (List.mem_cons_of_mem _ (List.mem_cons_self ..)) e.symm;refine C1h l S e 0 D T o.c id (List.zipWith L9 o.t.cells o.is) e.field.toNat _ _ _ hx n' t' k3 b' (by omega) d1 d2 dc fun id=>?_;have:=A3D l S e (H9 (A6 l S) e) o ty f cl D T id k3 a6 (by omega) hfd hkf hcl hio htya a1 ho hlen his (hn rfl) (by omega) (by omega) (by omega) hc8 d1 d2 dc;rw[hW,h] at this;exact this
   | some I =>
    obtain⟨i1,i2,i3,i4⟩:=hII I rfl;refine (B71 l S e T id o.c (List.zipWith L9 o.t.cells o.is) e.field.toNat _ _ _ hx n' t' I cl.ids dc i2 i3 (H9 (A6 l S) e) (by omega) hf0 a1 a2 a3 a4 fun D id hD=>?_).more i4;have d1:D≠T:=fun e=>hD _ (List.mem_cons_self ..) e.symm;have d2:D≠o.c:=fun e=>hD _ (List.mem_cons_of_mem _ (List.mem_cons_self ..)) e.symm;have d4:=i1 D hD;refine B9D l S e 0 D T o.c id (List.zipWith L9 o.t.cells o.is) e.field.toNat _ _ _ hx n' t' I cl.ids d4 i2 i3 k3 b' (by omega) d1 d2 dc fun id=>?_;have:=A1O l S e (H9 (A6 l S) e) o ty f cl I D T id k3 a6 (by omega) hfd hkf hcl hio htya a1 ho hlen his (by omega) (by omega) (by omega) hc8 d1 d2 dc d4 i2 i3;rw[hW,h] at this;exact this
  ·refine B6z (X:=A0D o.t.cells o.is) rfl ?_ (B2p ..) (B5R (hok o hoS) hn) hnd2 hok2;show (o.c,_)::A0D (o.t.cells.set e.field.toNat ⟨n',t',cl.ids⟩) (o.is.set e.field.toNat io)=_;rw[hX2,hX1];cases io<;>rfl
 ·obtain⟨n',t',ys,hc'⟩:∃n t ys,t8 f cl e=⟨n,t,ys⟩:=⟨_,_,_,rfl⟩;rw[hc'] at hrs;have hW:∀id,Q6 (A6 l S) f cl e o.c e.field.toNat id (List.zipWith L9 o.t.cells o.is) io=(if e.kind=5/\f.kind=3 then [] else A2k io)++[(o.c,some ⟨(List.zipWith L9 o.t.cells o.is).set e.field.toNat (L9 ⟨n',t',ys⟩ (some id)),zC,false,false⟩),(id,some ⟨ys.map eI,.int .i64 0,false,false⟩)]:=fun id=>by unfold Q6; rw[if_neg (by simp[h]),if_neg k4,hc']
  refine B5S (io:=some id) ho hrs (wr:=(if e.kind=5/\f.kind=3 then [] else A2k io)++[(o.c,some (cBn (A5n o e.field.toNat ⟨n',t',ys⟩ (some id)))),(id,some ⟨ys.map eI,.int .i64 0,false,false⟩)]) ?_ ?_
  ·rw[B2q];cases io with
   | none =>
    have hg:(if e.kind=5/\f.kind=3 then [] else A2k none)=[]:=(by split<;>rfl);rw[hg,List.nil_append];refine (B97 l S e T id o.c (List.zipWith L9 o.t.cells o.is) e.field.toNat n' t' ys dc (H9 (A6 l S) e) (by omega) hf0 a1 a2 a3 a4 fun D id hD=>?_).more hm2;have d1:D≠T:=fun e=>hD _ (List.mem_cons_self ..) e.symm;have d2:D≠o.c:=fun e=>hD _ (List.mem_cons_of_mem _ (List.mem_cons_self ..)) e.symm;refine C1i l S e 0 D T o.c id (List.zipWith L9 o.t.cells o.is) e.field.toNat n' t' ys k3 b' (by omega) d1 d2 dc fun id=>?_;have:=A3D l S e (H9 (A6 l S) e) o ty f cl D T id k3 a6 (by omega) hfd hkf hcl hio htya a1 ho hlen his (hn rfl) (by omega) (by omega) (by omega) hc8 d1 d2 dc;rw[hW,h,hg] at this;exact this
   | some I =>
    obtain⟨i1,i2,i3,i4⟩:=hII I rfl;by_cases k5:e.kind=5/\f.kind=3
    ·rw[if_pos k5,List.nil_append];refine (B72 l S e T id o.c (List.zipWith L9 o.t.cells o.is) e.field.toNat n' t' ys I cl.ids dc i2 i3 (H9 (A6 l S) e) (by omega) hf0 a1 a2 a3 a4 fun D id hD=>?_).more i4;have d1:D≠T:=fun e=>hD _ (List.mem_cons_self ..) e.symm;have d2:D≠o.c:=fun e=>hD _ (List.mem_cons_of_mem _ (List.mem_cons_self ..)) e.symm;have d4:=i1 D hD;refine B9E l S e 0 D T o.c id (List.zipWith L9 o.t.cells o.is) e.field.toNat n' t' ys I cl.ids d4 i2 i3 k3 b' (by omega) d1 d2 dc fun id=>?_;have:=A1O l S e (H9 (A6 l S) e) o ty f cl I D T id k3 a6 (by omega) hfd hkf hcl hio htya a1 ho hlen his (by omega) (by omega) (by omega) hc8 d1 d2 dc d4 i2 i3;rw[hW,h,if_pos k5] at this;exact this
    ·rw[if_neg k5];refine (B98 l S e T id o.c (List.zipWith L9 o.t.cells o.is) e.field.toNat n' t' ys I cl.ids dc i2 i3 (H9 (A6 l S) e) (by omega) hf0 a1 a2 a3 a4 fun D id hD=>?_).more i4;have d1:D≠T:=fun e=>hD _ (List.mem_cons_self ..) e.symm;have d2:D≠o.c:=fun e=>hD _ (List.mem_cons_of_mem _ (List.mem_cons_self ..)) e.symm;have d4:=i1 D hD;refine C1j l S e 0 D T o.c id (List.zipWith L9 o.t.cells o.is) e.field.toNat n' t' ys I cl.ids d4 i2 i3 k3 b' (by omega) d1 d2 dc fun id=>?_;have:=A1O l S e (H9 (A6 l S) e) o ty f cl I D T id k3 a6 (by omega) hfd hkf hcl hio htya a1 ho hlen his (by omega) (by omega) (by omega) hc8 d1 d2 dc d4 i2 i3;rw[hW,h,if_neg k5] at this;exact this
  ·refine B70 (X:=X) (I:=idB cl io) (Y:=Y) (b:=⟨ys.map eI,.int .i64 0,false,false⟩) ?_ ?_ ?_ (B2p ..) (B5R (hok o hoS) (by simp)) hnd2 hfr2 hok2
   ·show (o.c,_)::A0D o.t.cells o.is=_;rw[hX1]
   ·show (o.c,_)::A0D (o.t.cells.set e.field.toNat ⟨n',t',ys⟩) (o.is.set e.field.toNat (some id))=_;rw[hX2];rfl
   ·intro p hp;split at hp
    ·cases hp
    ·cases io with
     | none=>cases hp
     | some I=>simp only[A2k,List.mem_singleton] at hp; subst hp; simp[idB]
theorem B2r(h:A1c (A6 l S) e=0):∃T' S' wr,B2o l S T e id T' S' wr:=by
 have h6:=(y9 (A2X h).1).2.2.2.2.2.1;by_cases k1:e.kind=1
 ·exact B9G hnd hfr hok hR k1 h
 by_cases k2:e.kind=2
 ·exact B9H hnd hfr hok hR k2 h
 ·exact C1l hnd hfr hok hR (by omega) h
end
def A1z(b:Nat):List Cl->List (Option Nat)
 | []=>[]
 | _::cs=>some b::A1z (b+1) cs
def A0k(t:Nat):Nat->List Tg->List H1
 | _,[]=>[]
 | q,x::xs=>⟨x,t+1+q,A1z (t+16+16*q) x.cells⟩::A0k t (q+1) xs
theorem A82:∀{l:List Cl} {b k:Nat} {c:Cl},l[k]?=some c->(A1z b l)[k]?=some (some (b+k))
 | [],_,_,_,h=>by simp at h
 | _::_,b,0,_,_=>rfl
 | _::l,b,k+1,c,h=>by
  simp only[List.getElem?_cons_succ] at h;rw[A1z,List.getElem?_cons_succ,A82 h];congr 2; omega
theorem A83:∀(l:List Cl) (b:Nat),(A1z b l).length=l.length
 | [],_=>rfl
 | _::l,b=>by simp[A1z,A83 l]
theorem A4v(t:Nat):∀(l:List Tg) (q:Nat),(A0k t q l).length=l.length
 | [],_=>rfl
 | _::l,q=>by simp[A0k,A4v t l]
theorem B9J(t:Nat):∀(l:List Tg) (q:Nat),(A0k t q l).map H1.t=l
 | [],_=>rfl
 | _::l,q=>by simp[A0k,B9J t l]
theorem B5T(t:Nat):∀(l:List Tg) (q:Nat),∀o∈A0k t q l,o.Ok
 | [],_,o,h=>by cases h
 | x::l,q,o,h=>by
  rcases List.mem_cons.1 h with rfl|h
  ·refine⟨A83 ..,fun k c h1 h2=>?_⟩;have h1:x.cells[k]?=some c:=h1;have h2:(A1z (t+16+16*q) x.cells)[k]?=some none:=h2;rw[A82 h1] at h2;cases h2
  ·exact B5T t l (q+1) o h
theorem A3H(b:Nat):∀(l:List Cl),∀z∈(A0D l (A1z b l)).map Prod.fst,b<=z/\z<b+l.length
 | [],z,h=>by cases h
 | c::l,z,h=>by
  simp only[A1z,A0D,idB,List.map_append,List.map_cons,List.map_nil,List.cons_append,List.nil_append,List.mem_cons] at h;rcases h with rfl|h
  ·simp
  ·have:=A3H (b+1) l z h;simp only[List.length_cons];omega
theorem A6M(b:Nat):∀(l:List Cl),((A0D l (A1z b l)).map Prod.fst).Nodup
 | []=>List.nodup_nil
 | c::l=>by
  simp only[A1z,A0D,idB,List.map_append,List.map_cons,List.map_nil,List.cons_append,List.nil_append,List.nodup_cons];refine⟨fun h=>?_,A6M (b+1) l⟩;have:=A3H (b+1) l b h;omega
theorem A6r(t:Nat):∀(l:List Tg) (q:Nat),(∀x∈l,x.cells.length<=16)->∀z∈nmR (A0k t q l),(t+1+q<=z/\z<t+1+q+l.length)\/(t+16+16*q<=z/\z<t+16+16*(q+l.length))
 | [],_,_,z,h=>by cases h
 | x::l,q,h6,z,h=>by
  rw[A0k,A4q] at h;have hx:=h6 x (List.mem_cons_self ..);simp only[List.length_cons];rcases List.mem_append.1 h with h|h
  ·rcases List.mem_cons.1 h with rfl|h
   ·left; simp only; omega
   ·have h:z∈(A0D x.cells (A1z (t+16+16*q) x.cells)).map Prod.fst:=h;have:=A3H _ _ z h;omega
  ·have:=A6r t l (q+1) (fun y hy=>h6 y (List.mem_cons_of_mem _ hy)) z h;omega
theorem B5U(t:Nat):∀(l:List Tg) (q:Nat),(∀x∈l,x.cells.length<=16)->q+l.length<=12->(nmR (A0k t q l)).Nodup
 | [],_,_,_=>List.nodup_nil
 | x::l,q,h6,h12=>by
  have hx:=h6 x (List.mem_cons_self ..);simp only[List.length_cons] at h12;rw[A0k,A4q,List.nodup_append];refine⟨List.nodup_cons.2 ⟨fun h=>?_,A6M _ _⟩,B5U t l (q+1) (fun y hy=>h6 y (List.mem_cons_of_mem _ hy)) (by omega),fun a ha b hb=>?_⟩
  ·have h:t+1+q∈(A0D x.cells (A1z (t+16+16*q) x.cells)).map Prod.fst:=h;have:=A3H _ _ _ h;omega
  ·have hb:=A6r t l (q+1) (fun y hy=>h6 y (List.mem_cons_of_mem _ hy)) b hb;rcases List.mem_cons.1 ha with rfl|h
   ·simp only; omega
   ·have h:a∈(A0D x.cells (A1z (t+16+16*q) x.cells)).map Prod.fst:=h;have:=A3H _ _ a h;omega
theorem B76(t q:Nat)(l:List Cl):Y9 t q l l.length=List.zipWith L9 l (A1z (t+16+16*q) l):=by
 have:∀k,k<=l.length->Y9 t q l k=(List.zipWith L9 l (A1z (t+16+16*q) l)).take k:=fun k=>by
  induction k with
  | zero=>intro _; simp[Y9]
  | succ k ih =>
   intro h;have hc:l[k]?=some l[k]:=List.getElem?_eq_getElem (by omega);rw[Y9,hc];simp only;rw[ih (by omega),List.take_succ,A6p hc (A82 hc)];rfl
 rw[this _ (Nat.le_refl _),List.take_of_length_le];simp[A83]
theorem A84(t:Nat):∀{l:List Tg} {q i:Nat} {x:Tg},l[i]?=some x->(A0k t q l)[i]?=some ⟨x,t+1+(q+i),A1z (t+16+16*(q+i)) x.cells⟩
 | [],_,_,_,h=>by simp at h
 | x::l,q,0,y,h=>by simp only[List.getElem?_cons_zero,Option.some.injEq] at h; subst h; rfl
 | _::l,q,i+1,y,h=>by
  simp only[List.getElem?_cons_succ] at h;rw[A0k,List.getElem?_cons_succ,A84 t h];have:q+1+i=q+(i+1):=by omega
  rw[this]
theorem B77(t:Nat)(l:List Tg):S9 t l l.length=(A0k t 0 l).map V8:=by
 have:∀k,k<=l.length->S9 t l k=((A0k t 0 l).map V8).take k:=fun k=>by
  induction k with
  | zero=>intro _; simp[S9]
  | succ k ih =>
   intro h;have hc:l[k]?=some l[k]:=List.getElem?_eq_getElem (by omega);rw[S9,hc];simp only;rw[ih (by omega),List.take_succ,List.getElem?_map,A84 t hc];simp[eTo,V8]
 rw[this _ (Nat.le_refl _),List.take_of_length_le];simp[A4v]
theorem C1m{t q:Nat}{l:List Cl}{k m:Nat}{c:Cl}(hc:l[m]?=some c)(h:m<k):(t+16+16*q+m,some (iBx c))∈A0j t q l k:=by
 induction k with
 | zero=>omega
 | succ k ih =>
  rw[A0j];by_cases hk:m=k
  ·subst hk; rw[hc]; exact List.mem_cons_self ..
  ·have:=ih (by omega);split
   ·exact List.mem_cons_of_mem _ this
   ·exact this
theorem B9K{t:Nat}{l:List Tg}{i j:Nat}{x:Tg}(hx:l[j]?=some x)(h:j<i):(t+1+j,some (cBx t j x))∈P7 t l i/\∀p∈A0j t j x.cells x.cells.length,p∈P7 t l i:=by
 induction i with
 | zero=>omega
 | succ i ih =>
  rw[P7];by_cases hk:j=i
  ·subst hk; rw[hx]; exact⟨List.mem_cons_self ..,fun p hp=>List.mem_cons_of_mem _ (List.mem_append_left _ hp)⟩
  ·have:=ih (by omega);split
   ·exact⟨List.mem_cons_of_mem _ (List.mem_append_right _ this.1),fun p hp=>List.mem_cons_of_mem _ (List.mem_append_right _ (this.2 p hp))⟩
   ·exact this
theorem B2s{b:Nat}:∀{l:List Cl} {p:Nat×Bx},p∈A0D l (A1z b l)->∃k c,l[k]?=some c/\p=(b+k,iBx c)
 | [],p,h=>by cases h
 | c::l,p,h=>by
  simp only[A1z,A0D,idB,List.cons_append,List.nil_append,List.mem_cons] at h;rcases h with rfl|h
  ·exact⟨0,c,rfl,rfl⟩
  ·obtain⟨k,d,h1,rfl⟩:=B2s h;exact⟨k+1,d,h1,by rw[Nat.add_assoc,Nat.add_comm 1 k]⟩
theorem C1n{t:Nat}{l:List Tg}{o:H1}(h:o∈A0k t 0 l):∃i x,l[i]?=some x/\o=⟨x,t+1+i,A1z (t+16+16*i) x.cells⟩:=by
 obtain⟨i,hi⟩:=List.mem_iff_getElem?.1 h;have hl:i<l.length:=by have:=(List.getElem?_eq_some_iff.1 hi).1; rwa [A4v] at this
 have hx:l[i]?=some l[i]:=List.getElem?_eq_getElem hl;rw[A84 t hx] at hi;injection hi with hi
 exact⟨i,_,hx,by rw[←hi,Nat.zero_add]⟩
theorem C3U{t:Nat}{l:List Tg}{q:Nat×Bx}(h:q∈v7 t (A0k t 0 l)):(q.1,some q.2)∈(t,some (⟨S9 t l l.length,zT,false,false⟩:Bx))::P7 t l l.length:=by
 rcases List.mem_cons.1 h with rfl|h
 ·rw[B77]; exact List.mem_cons_self ..
 ·refine List.mem_cons_of_mem _ ?_;obtain⟨o,ho,hq⟩:=List.mem_flatMap.1 h;obtain⟨i,x,hx,rfl⟩:=C1n ho;have hin:=B9K (t:=t) hx (List.getElem?_eq_some_iff.1 hx).1;rcases List.mem_cons.1 hq with rfl|hq
  ·have:=hin.1;rw[cBx,B76] at this;exact this
  ·obtain⟨k,c,hc,rfl⟩:=B2s hq;exact hin.2 _ (C1m hc (List.getElem?_eq_some_iff.1 hc).1)
theorem C3V{t:Nat}{l:List Tg}(h6:∀x∈l,x.cells.length<=16)(h12:l.length<=12):(Z6 t (A0k t 0 l)).Nodup:=by
 refine List.nodup_cons.2 ⟨fun h=>?_,B5U t l 0 h6 (by omega)⟩;have:=A6r t l 0 h6 t h;omega
theorem B9L{t:Nat}{l:List Tg}(h6:∀x∈l,x.cells.length<=16)(h12:l.length<=12):∀z∈Z6 t (A0k t 0 l),t<=z/\z<t+1000:=fun z h=>by
 rcases List.mem_cons.1 h with rfl|h
 ·omega
 ·have:=A6r t l 0 h6 z h;omega
theorem B9M(t:Nat)(s:I4):A6 s.types (A0k t 0 s.things)=s:=by simp[A6,B9J]
theorem B9N{s:I4}(h:fSt s=0):StR s/\Srt s.things/\U4 (fun f c=>!c.ids.any fun x=>!L2 s f x) s.types s.things=true:=by
 unfold fSt at h;split at h
 ·rename_i h1; exact (h1 h).elim
 ·rename_i h1;have h1:J0 s.types=0:=by omega
  split at h
  ·omega
  ·rename_i h2;split at h
   ·rename_i h3; exact (h3 h).elim
   ·rename_i h3;have h3:E4 (fun i t=>A19 s i t) s.things 0=0:=(by omega);obtain⟨g1,g2⟩:=C3T (A6J h1) h3;refine⟨⟨A6J h1,by omega,g1⟩,g2,?_⟩;split at h
    ·assumption
    ·omega
theorem B5V(f:Nat->Int)(n:Nat)(hm:∀k m,k<=m->m<n->f m<0->f k<0):∀a b,a<=b->b<=n->(∀k,k<a->f k<0)->(∀k,b<=k->k<n->¬f k<0)->(∀k,k<bs f a b->f k<0)/\(∀k,bs f a b<=k->k<n->¬f k<0):=fun a b=>by
 fun_induction bs f a b with
 | case1 i j h hf ih =>
  intro h1 h2 h3 h4;exact ih (by omega) h2 (fun k hk=>hm k ((i+j) / 2) (by omega) (by omega) hf) h4
 | case2 i j h hf ih =>
  intro h1 h2 h3 h4;refine ih (by omega) (by omega) h3 fun k hk hkn h5=>hf (hm _ k hk hkn h5)
 | case3 i j h =>
  intro h1 h2 h3 h4;exact⟨h3,fun k hk=>h4 k (by omega)⟩
abbrev tLt(a b:Tg):Prop:=V6 a.type a.id b.type b.id=true
theorem Srt.pw{l:List Tg}(h:Srt l):l.Pairwise tLt:=by
 rw[List.pairwise_iff_getElem];exact fun i j hi hj hij=>h.asc i j _ _ hij (List.getElem?_eq_getElem hi) (List.getElem?_eq_getElem hj)
theorem C2Q{l:List Tg}(h1:∀t∈l,0<=t.type/\t.type<=1000)(h2:∀t∈l,1<=t.id/\t.id<=999)(h:l.Pairwise tLt):Srt l:=by
 refine⟨h1,h2,fun i j a b hij ha hb=>?_⟩;rw[List.pairwise_iff_getElem] at h;obtain⟨hi,rfl⟩:=List.getElem?_eq_some_iff.1 ha;obtain⟨hj,rfl⟩:=List.getElem?_eq_some_iff.1 hb;exact h i j hi hj hij
theorem A4w{α:Type}{l:List α}{i:Nat}{x:α}(h:x∈l.take i):∃j,j<i/\l[j]?=some x:=by
 obtain⟨j,hj⟩:=List.mem_iff_getElem?.1 h;rw[List.getElem?_take] at hj;split at hj
 ·exact⟨j,by assumption,hj⟩
 ·cases hj
theorem A4x{α:Type}{l:List α}{i:Nat}{x:α}(h:x∈l.drop i):∃j,i<=j/\l[j]?=some x:=by
 obtain⟨j,hj⟩:=List.mem_iff_getElem?.1 h;rw[List.getElem?_drop] at hj;exact⟨i+j,by omega,hj⟩
section
variable {l:List Tg} (hl:Srt l) {kind tid:Int} (h2:0<=kind/\kind<=1000) (h4:1<=tid/\tid<=999)
include hl h2 h4
theorem Srt.part:(∀t∈l.take (C8 l kind tid),V6 t.type t.id kind tid=true)/\(∀t∈l.drop (C8 l kind tid),V6 t.type t.id kind tid=false):=by
 have hb:=B5V (L8 l kind tid) l.length (fun k m hkm hm hf=>by
  obtain⟨a,ha⟩:∃a,l[k]?=some a:=⟨_,List.getElem?_eq_getElem (by omega)⟩;obtain⟨b,hb⟩:∃b,l[m]?=some b:=⟨_,List.getElem?_eq_getElem (by omega)⟩;have ham:=List.mem_of_getElem? ha;have hbm:=List.mem_of_getElem? hb;simp only[L8,hb] at hf;simp only[L8,ha];rw[X5 (hl.ty b hbm) h2 (hl.id b hbm) h4] at hf;rw[X5 (hl.ty a ham) h2 (hl.id a ham) h4];rcases Nat.lt_or_ge k m with h|h
  ·exact A6L (hl.asc k m a b h ha hb) hf
  ·obtain rfl:k=m:=by omega
   rw[ha] at hb; injection hb with hb; subst hb; exact hf) 0 l.length (by omega) (by omega) (by omega) (by omega)
 refine⟨fun t ht=>?_,fun t ht=>?_⟩
 ·obtain⟨j,hj,hjt⟩:=A4w ht;have:=hb.1 j hj;have htm:=List.mem_of_getElem? hjt;simp only[L8,hjt] at this
  rwa [X5 (hl.ty t htm) h2 (hl.id t htm) h4] at this
 ·obtain⟨j,hj,hjt⟩:=A4x ht;have:=hb.2 j hj (List.getElem?_eq_some_iff.1 hjt).1;have htm:=List.mem_of_getElem? hjt;simp only[L8,hjt] at this;rw[X5 (hl.ty t htm) h2 (hl.id t htm) h4] at this;simpa using this
theorem Srt.notThere(h:F7 l kind tid=false):∀t∈l,¬(t.type=kind/\t.id=tid):=by
 rw[hl.findB (by omega) (by unfold I64; omega)] at h;intro t ht ⟨e1,e2⟩;have:l.any (B73 kind tid)=true:=List.any_eq_true.2 ⟨t,ht,by simp[B73,e1,e2]⟩;rw[h] at this; cases this
theorem Srt.insert(h:F7 l kind tid=false){x:Tg}(hx:x.type=kind/\x.id=tid):Srt (l.take (C8 l kind tid)++x::l.drop (C8 l kind tid)):=by
 obtain⟨p1,p2⟩:=hl.part h2 h4;have hno:=hl.notThere h2 h4 h;have hm:∀t∈l.take (C8 l kind tid)++x::l.drop (C8 l kind tid),t∈l\/t=x:=fun t ht=>by
  rcases List.mem_append.1 ht with ht|ht
  ·exact .inl (List.mem_of_mem_take ht)
  ·rcases List.mem_cons.1 ht with ht|ht
   ·exact .inr ht
   ·exact .inl (List.mem_of_mem_drop ht)
 have hpw:=hl.pw;have hsp:l.Pairwise tLt:=hpw;rw[←List.take_append_drop (C8 l kind tid) l,List.pairwise_append] at hsp;refine C2Q (fun t ht=>?_) (fun t ht=>?_) (List.pairwise_append.2 ⟨hsp.1,List.pairwise_cons.2 ⟨fun b hb=>?_,hsp.2.1⟩,fun a ha b hb=>?_⟩)
 ·rcases hm t ht with h|rfl
  ·exact hl.ty t h
  ·omega
 ·rcases hm t ht with h|rfl
  ·exact hl.id t h
  ·omega
 ·have h5:=p2 b hb;have h6:=hno b (List.mem_of_mem_drop hb);show V6 _ _ _ _=true;rw[hx.1,hx.2];simp[V6] at h5 ⊢;omega
 ·rcases List.mem_cons.1 hb with rfl|hb
  ·show V6 _ _ _ _=true;rw[hx.1,hx.2]; exact p1 a ha
  ·exact hsp.2.2 a ha b hb
theorem Srt.thereAt(h:F7 l kind tid=true):∃t,l[C8 l kind tid]?=some t/\t.type=kind/\t.id=tid:=by
 simp only[F7,Bool.and_eq_true,decide_eq_true_eq] at h;obtain⟨hlt,hz⟩:=h;obtain⟨u,hu⟩:∃u,l[C8 l kind tid]?=some u:=⟨_,List.getElem?_eq_getElem hlt⟩;have hum:=List.mem_of_getElem? hu;simp only[L8,hu] at hz;rw[A4s (hl.ty u hum) (by omega) (hl.id u hum) (by unfold I64; omega)] at hz;exact⟨u,hu,hz⟩
end
theorem Srt.sub{l l':List Tg}(h:Srt l)(hs:l'.Sublist l):Srt l' :=
 C2Q (fun t ht=>h.ty t (hs.subset ht)) (fun t ht=>h.id t (hs.subset ht)) (h.pw.sublist hs)
theorem B5W{α:Type}(l:List α)(i:Nat):(l.take i++l.drop (i+1)).Sublist l:=by
 conv=>rhs; rw[←List.take_append_drop i l]
 refine (List.Sublist.refl _).append ?_;rw[←List.tail_drop];exact List.tail_sublist _
theorem Srt.key{l l':List Tg}(hl:Srt l)(h:l.map (fun t=>(t.type,t.id))=l'.map (fun t=>(t.type,t.id))):Srt l':=by
 have hg:∀(k:Nat) t,l'[k]?=some t->∃u,l[k]?=some u/\u.type=t.type/\u.id=t.id:=fun k t hk=>by
  have:(l.map (fun t=>(t.type,t.id)))[k]?=(l'.map (fun t=>(t.type,t.id)))[k]?:=by rw[h]
  rw[List.getElem?_map,List.getElem?_map,hk] at this;cases h1:l[k]?<;>simp[h1] at this
  exact⟨_,rfl,this.1,this.2⟩
 refine⟨fun t ht=>?_,fun t ht=>?_,fun i j a b hij ha hb=>?_⟩
 ·obtain⟨k,hk⟩:=List.mem_iff_getElem?.1 ht;obtain⟨u,hu,e1,e2⟩:=hg k t hk;rw[←e1]; exact hl.ty u (List.mem_of_getElem? hu)
 ·obtain⟨k,hk⟩:=List.mem_iff_getElem?.1 ht;obtain⟨u,hu,e1,e2⟩:=hg k t hk;rw[←e2]; exact hl.id u (List.mem_of_getElem? hu)
 ·obtain⟨u,hu,e1,e2⟩:=hg i a ha;obtain⟨v,hv,e3,e4⟩:=hg j b hb;rw[←e1,←e2,←e3,←e4];exact hl.asc i j u v hij hu hv
/-! Numbers in order. -/
theorem A6s:∀{l:List Int},A4n l=true↔l.Pairwise (· < ·)
 | []=>by simp[A4n]
 | [a]=>by simp[A4n]
 | a::b::r=>by
  have ih:=A6s (l:=b::r);simp only[A4n,Bool.and_eq_true,decide_eq_true_eq];rw[ih,List.pairwise_cons (a:=a)];constructor
  ·rintro⟨h1,h2⟩;refine⟨fun x hx=>?_,h2⟩;rcases List.mem_cons.1 hx with rfl|hx
   ·exact h1
   ·have:=(List.pairwise_cons.1 h2).1 x hx;omega
  ·rintro⟨h1,h2⟩;exact⟨h1 b (List.mem_cons_self ..),h2⟩
section
variable {l:List Int} (hl:l.Pairwise (· < ·))
include hl
theorem C3W(x:Int):(∀y∈l.take (K6 l x),y<x)/\(∀y∈l.drop (K6 l x),x<=y):=by
 have hb:=B5V (fLt l x) l.length (fun k m hkm hm hf=>by
  obtain⟨a,ha⟩:∃a,l[k]?=some a:=⟨_,List.getElem?_eq_getElem (by omega)⟩;obtain⟨b,hb⟩:∃b,l[m]?=some b:=⟨_,List.getElem?_eq_getElem (by omega)⟩;simp only[fLt,hb] at hf;simp only[fLt,ha];rcases Nat.lt_or_ge k m with h|h
  ·rw[List.pairwise_iff_getElem] at hl;have:=hl k m (by omega) hm h;rw[List.getElem?_eq_getElem (by omega)] at ha hb;injection ha with ha; injection hb with hb
   omega
  ·obtain rfl:k=m:=by omega
   rw[ha] at hb; injection hb with hb; subst hb; exact hf) 0 l.length (by omega) (by omega) (by omega) (by omega)
 refine⟨fun t ht=>?_,fun t ht=>?_⟩
 ·obtain⟨j,hj,hjt⟩:=A4w ht;have:=hb.1 j hj;simp only[fLt,hjt] at this;omega
 ·obtain⟨j,hj,hjt⟩:=A4x ht;have:=hb.2 j hj (List.getElem?_eq_some_iff.1 hjt).1;simp only[fLt,hjt] at this;omega
theorem C1o{j:Nat}{x:Int}(h:l[j]?=some x):K6 l x=j:=by
 have hlt:=(List.getElem?_eq_some_iff.1 h).1;unfold K6;refine A6q _ j (l.length+1) 0 l.length (by omega) (by omega) (by omega) (fun k _ hk=>?_) (fun k hk hkl=>?_)
 ·have:=(List.pairwise_iff_getElem.1 hl) k j (by omega) hlt hk;rw[List.getElem?_eq_getElem hlt] at h;injection h with h
  simp only[fLt,List.getElem?_eq_getElem (show k<l.length by omega)];omega
 ·rw[List.getElem?_eq_getElem hlt] at h;injection h with h
  simp only[fLt,List.getElem?_eq_getElem hkl];rcases Nat.lt_or_ge j k with hjk|hjk
  ·have:=(List.pairwise_iff_getElem.1 hl) j k hlt hkl hjk;omega
  ·obtain rfl:k=j:=by omega
   omega
theorem C1p(x:Int):V5 l x=true↔x∈l:=by
 constructor
 ·intro h;simp only[V5,Bool.and_eq_true,decide_eq_true_eq] at h;obtain⟨h1,h2⟩:=h;obtain⟨a,ha⟩:∃a,l[K6 l x]?=some a:=⟨_,List.getElem?_eq_getElem h1⟩;simp only[fLt,ha] at h2;have:a=x:=by omega
  subst this;exact List.mem_of_getElem? ha
 ·intro h;obtain⟨j,hj⟩:=List.mem_iff_getElem?.1 h;have:=C1o hl hj;simp only[V5,this,Bool.and_eq_true,decide_eq_true_eq,fLt,hj];exact⟨(List.getElem?_eq_some_iff.1 hj).1,by omega⟩
theorem B9O{x:Int}(h:V5 l x=false):(l.take (K6 l x)++x::l.drop (K6 l x)).Pairwise (· < ·):=by
 obtain⟨p1,p2⟩:=C3W hl x;have hn:x∉l:=fun hm=>by rw[(C1p hl x).2 hm] at h; cases h
 have hsp:=hl;rw[←List.take_append_drop (K6 l x) l,List.pairwise_append] at hsp;refine List.pairwise_append.2 ⟨hsp.1,List.pairwise_cons.2 ⟨fun b hb=>?_,hsp.2.1⟩,fun a ha b hb=>?_⟩
 ·have:=p2 b hb;have:x≠b:=fun e=>hn (e▸List.mem_of_mem_drop hb);omega
 ·rcases List.mem_cons.1 hb with rfl|hb
  ·exact p1 a ha
  ·exact hsp.2.2 a ha b hb
end
theorem B5X{f:Fd}{c:Cl}(h:B6o f c):A2i f c=0:=by
 unfold A2i;rw[if_neg (by
  rintro (⟨h1,h2⟩|⟨h1,h2⟩|⟨h1,h2⟩)
  ·exact h2 (h.n0 h1)
  ·exact h2 (h.t0 h1)
  ·exact h2 (h.i0 h1)),if_neg (by have:=h.n1; omega),if_neg (by
  have:=h.t1;have:=h.i1;have:=h.i3;unfold A6F;split<;>omega),if_pos h.asc]
theorem A4E{α:Type}(f:Nat->α->Int):∀(l:List α) (i:Nat),(∀k x,l[k]?=some x->f (i+k) x=0)->E4 f l i=0
 | [],i,_=>rfl
 | y::r,i,h=>by
  simp only[E4];have h0:=h 0 y rfl;rw[if_neg (by simpa using h0)];exact A4E f r (i+1) fun k x hk=>by have:=h (k+1) x (by simpa using hk); rwa [show i+(k+1)=i+1+k by omega] at this
theorem C1q{s:I4}{t:Tg}(h:A4B s t):j0 s.types t=0:=by
 unfold j0;have h1:=h.ty0;have h2:=h.ty1;have h3:=h.id1;have h4:=h.id2;rw[if_neg (by omega),if_neg (by omega),if_neg (by rw[h.len]; omega)];exact A4E _ _ _ fun k c hc=>by rw[Nat.zero_add]; exact h.cell k c hc
theorem A85{p:Fd->Cl->Bool}:∀{fs:List Fd} {cs:List Cl},A1b p fs cs=true↔∀(k:Nat) f c,fs[k]?=some f->cs[k]?=some c->p f c=true
 | [],cs=>by simp[A1b]
 | f::fs,[]=>by simp[A1b]
 | f::fs,c::cs=>by
  rw[A1b,Bool.and_eq_true,A85];constructor
  ·rintro⟨h1,h2⟩ k f' c' hf hc;cases k with
   | zero=>simp at hf hc; subst hf hc; exact h1
   | succ k=>exact h2 k f' c' (by simpa using hf) (by simpa using hc)
  ·intro h;exact⟨h 0 f c rfl rfl,fun k f' c' hf hc=>h (k+1) f' c' (by simpa using hf) (by simpa using hc)⟩
theorem A5o{p:Fd->Cl->Bool}{l:List Ty}{ts:List Tg}:U4 p l ts=true↔∀t∈ts,∀(k:Nat) f c,(D8 l t.type)[k]?=some f->t.cells[k]?=some c->p f c=true:=by
 simp only[U4,List.all_eq_true,A85]
structure Rt(s:I4):Prop where
 chk:J0 s.types=0
 r:StR s
 srt:Srt s.things
 lnk:∀t∈s.things,∀(k:Nat) f c,(D8 s.types t.type)[k]?=some f->t.cells[k]?=some c->∀x∈c.ids,∃u∈s.things,u.type=C4 s.types f.of/\u.id=x
def B9P(s:I4):Prop:=∀t∈s.things,∀c∈t.cells,∀x∈c.ids,I64 x
theorem A3I{s:I4}(hS:A6I s.types)(hl:Srt s.things){f:Fd}{x:Int}(hx:I64 x):L2 s f x=true↔∃u∈s.things,u.type=C4 s.types f.of/\u.id=x:=by
 unfold L2;rw[hl.findB (B75 hS _) hx,List.any_eq_true];simp[B73]
theorem Rt.idsI{s:I4}(h:Rt s):B9P s:=fun t ht c hc x hx=>by
 obtain⟨k,hk⟩:=List.mem_iff_getElem?.1 hc;obtain⟨f,hf,_⟩:=(h.r.tg t ht).cellOk hk;obtain⟨u,hu,_,rfl⟩:=h.lnk t ht k f c hf hk x hx;have:=h.srt.id u hu;unfold I64; omega
theorem C4h{s:I4}(h:fSt s=0)(hI:B9P s):Rt s:=by
 obtain⟨h1,h2,h3⟩:=B9N h;have hc:J0 s.types=0:=by
  unfold fSt at h;split at h
  ·rename_i g; exact (g h).elim
  ·rename_i g; exact Classical.byContradiction g
 refine⟨hc,h1,h2,fun t ht k f c hf hk x hx=>?_⟩;have:=A5o.1 h3 t ht k f c hf hk;simp only[Bool.not_eq_true',List.any_eq_false] at this;have:=this x hx;rw[←A3I h1.sch h2 (hI t ht c (List.mem_of_getElem? hk) x hx)];simpa using this
theorem Rt.st{s:I4}(h:Rt s):fSt s=0:=by
 have hI:=h.idsI;unfold fSt;have h12:=h.r.len;have h1:E4 (fun i t=>A19 s i t) s.things 0=0:=A4E _ _ _ fun k t hk=>by
  have htm:=List.mem_of_getElem? hk;rw[Nat.zero_add];unfold A19;rw[if_neg (by rw[C1q (h.r.tg t htm)]; omega),if_neg];rintro⟨h2,h3⟩;obtain⟨u,hu⟩:∃u,s.things[k - 1]?=some u:=⟨_,List.getElem?_eq_getElem (by have:=(List.getElem?_eq_some_iff.1 hk).1; omega)⟩;have hum:=List.mem_of_getElem? hu;simp only[L8,hu] at h3;have h4:=h.srt.asc (k - 1) k u t (by omega) hu hk;rw[←X5 (h.srt.ty u hum) (h.srt.ty t htm) (h.srt.id u hum) (h.srt.id t htm)] at h4;omega
 rw[if_neg (by rw[h.chk]; omega),if_neg (by omega),if_neg (by rw[h1]; omega),if_pos];rw[A5o];intro t ht k f c hf hk;simp only[Bool.not_eq_true',List.any_eq_false];intro x hx;rw[(A3I h.r.sch h.srt (hI t ht c (List.mem_of_getElem? hk) x hx)).2 (h.lnk t ht k f c hf hk x hx)];simp
/-! Events. -/
theorem B78{l:List Ty}{ts:List Tg}{e:Ev}:U4 (T8 l e) l ts=true↔∀t∈ts,∀(k:Nat) f c,(D8 l t.type)[k]?=some f->t.cells[k]?=some c->g9 f.kind=true->C4 l f.of=e.type->e.id∉c.ids:=by
 rw[A5o];constructor
 ·intro h t ht k f c hf hc hk ho hm;have:=h t ht k f c hf hc;simp only[T8,hk,ho,C1d,Bool.or_eq_true,Bool.not_eq_true',beq_eq_false_iff_ne,List.any_eq_false] at this;rcases this with (h1|h1)|h1
  ·cases h1
  ·exact h1 rfl
  ·exact h1 _ hm (by simp)
 ·intro h t ht k f c hf hc;have:=h t ht k f c hf hc;simp only[T8,C1d,Bool.or_eq_true,Bool.not_eq_true',beq_eq_false_iff_ne,List.any_eq_false];by_cases h1:g9 f.kind=true
  ·by_cases h2:C4 l f.of=e.type
   ·right
    have:=this h1 h2;intro x hx he;simp at he;exact this (he▸hx)
   ·left; right; exact h2
  ·left; left; simpa using h1
theorem B4K{s:I4}{k:Int}{j:Nat}{f:Fd}(hS:A6I s.types)(h:(D8 s.types k)[j]?=some f):1<=f.kind/\f.kind<=4:=by
 unfold D8 at h;cases hk:s.types[k.toNat]? with
 | none=>simp[hk] at h
 | some ty =>
  simp[hk] at h;exact hS.kinds ty (List.mem_of_getElem? hk) f (List.mem_of_getElem? h)
structure C3X(s:I4)(e:Ev):Prop where
 form:Y8 e=0
 ty0:0<=e.type
 ty1:e.type.toNat<s.types.length
 ty2:e.type<=1000
 id1:1<=e.id
 id2:e.id<=999
 k1:1<=e.kind
 k2:e.kind<=6
 don:doE s e=0
theorem C5i{s:I4}(h:Rt s){e:Ev}(he:A1c s e=0):C3X s e:=by
 unfold A1c at he;by_cases h0:s0 s.types e=0
 ·rw[if_neg (by simpa using h0)] at he;obtain⟨a1,a2,a3,a4,a5,a6,a7⟩:=y9 h0;have:=h.r.sch.len;exact⟨a1,a2,by omega,by omega,a4,a5,a6,a7,he⟩
 ·rw[if_pos h0] at he; exact (h0 he).elim
structure C5j(s:I4)(e:Ev)(t:Tg)(f:Fd)(c:Cl):Prop where
 tt:s.things[H9 s e]?=some t
 ty:t.type=e.type
 idn:t.id=e.id
 f0:0<=e.field
 ff:(D8 s.types e.type)[e.field.toNat]?=some f
 cc:t.cells[e.field.toNat]?=some c
 fits:M3 e.kind f=true
 che:X4 s f c e=0
 st:A2m s e=A6a s (H9 s e) e.field.toNat (t8 f c e)
theorem B2t{s:I4}{e:Ev}(he:C3X s e)(hk:e.kind≠1):A3F s e=true:=by
 have hd:=he.don;unfold doE at hd;rw[if_neg hk] at hd;by_cases b:A3F s e=false
 ·rw[if_pos b] at hd; omega
 ·simpa using b
theorem C5k{s:I4}(h:Rt s){e:Ev}(he:C3X s e)(hk:3<=e.kind):∃t f c,C5j s e t f c:=by
 have hb:=B2t he (by omega);obtain⟨t,ht,e1,e2⟩:=h.srt.thereAt ⟨he.ty0,he.ty2⟩ ⟨he.id1,he.id2⟩ hb;have hd:=he.don;unfold doE at hd;rw[if_neg (by omega),if_neg (by simp[hb]),if_neg (by omega)] at hd;unfold chE at hd;have ht':s.things[H9 s e]?=some t:=ht;split at hd
 ·rename_i f c hf hc;by_cases hkf:M3 e.kind f=true
  ·rw[if_pos hkf] at hd;have hst:A2m s e=A6a s (H9 s e) e.field.toNat (t8 f c e):=by
    unfold A2m;rw[if_neg (by omega),if_neg (by omega),hf,hc]
   unfold A4t at hf;by_cases h0:e.field<0
   ·rw[if_pos h0] at hf; cases hf
   rw[if_neg h0] at hf;unfold B4J at hc;rw[ht'] at hc;exact⟨t,f,c,ht',e1,e2,by omega,hf,hc,hkf,hd,hst⟩
  ·rw[if_neg hkf] at hd; omega
 ·omega
theorem C1r{s:I4}{i k:Nat}{t:Tg}{c:Cl}(h:s.things[i]?=some t):A6a s i k c=⟨s.types,s.things.set i ⟨t.type,t.id,t.cells.set k c⟩⟩:=by unfold A6a; rw[h]
theorem B9Q{s:I4}{i k:Nat}{c:Cl}:s.things.map (fun t=>(t.type,t.id))=(A6a s i k c).things.map (fun t=>(t.type,t.id)):=by
 unfold A6a;cases h:s.things[i]? with
 | none=>rfl
 | some t =>
  simp only[List.map_set];refine (B9I ?_).symm;rw[List.getElem?_map,h]; rfl
theorem C1s{l l':List Tg}(h:l.map (fun t=>(t.type,t.id))=l'.map (fun t=>(t.type,t.id))){u:Tg}(hu:u∈l):∃v∈l',v.type=u.type/\v.id=u.id:=by
 have:(u.type,u.id)∈l.map (fun t=>(t.type,t.id)):=List.mem_map.2 ⟨u,hu,rfl⟩;rw[h] at this;obtain⟨v,hv,e⟩:=List.mem_map.1 this;injection e with e1 e2
 exact⟨v,hv,e1,e2⟩
theorem C1t{s:I4}(h:Rt s){e:Ev}(hn:I64 e.n)(hk:3<=e.kind/\e.kind<=6){f:Fd}{c:Cl}(hf:1<=f.kind/\f.kind<=4)(hc:B6o f c)(hfit:M3 e.kind f=true)(he:X4 s f c e=0):
  B6o f (t8 f c e)/\∀x∈(t8 f c e).ids,x∈c.ids\/∃u∈s.things,u.type=C4 s.types f.of/\u.id=x:=by
 have hpw:=A6s.1 hc.asc;unfold X4 at he;unfold M3 at hfit;unfold t8;by_cases k3:e.kind=3
 ·rw[if_pos k3] at he hfit ⊢;simp only[decide_eq_true_eq] at hfit;split at he
  ·exact⟨⟨(fun hh=>(hh hfit).elim),hc.t0,hc.i0,by assumption,hc.t1,hc.i1,hc.i3,hc.asc⟩,fun x hx=>.inl hx⟩
  ·omega
 rw[if_neg k3] at he hfit ⊢;by_cases k4:e.kind=4
 ·rw[if_pos k4] at he hfit ⊢;simp only[decide_eq_true_eq] at hfit;split at he
  ·omega
  ·exact⟨⟨hc.n0,(fun hh=>(hh hfit).elim),hc.i0,hc.n1,by simp only; omega,hc.i1,hc.i3,hc.asc⟩,fun x hx=>.inl hx⟩
 rw[if_neg k4] at he hfit ⊢;by_cases k5:e.kind=5
 ·rw[if_pos k5] at he ⊢;unfold S4 at he;by_cases ht:L2 s f e.n=false
  ·rw[if_pos ht] at he; omega
  rw[if_neg ht] at he;have ht:L2 s f e.n=true:=by simpa using ht
  have hu:=(A3I h.r.sch h.srt hn).1 ht;by_cases hb:V5 c.ids e.n=true
  ·rw[if_pos hb] at he; omega
  rw[if_neg hb] at he;have hb:V5 c.ids e.n=false:=by simpa using hb
  unfold T2;by_cases g3:f.kind=3
  ·rw[if_pos g3];refine⟨⟨hc.n0,hc.t0,(fun hh=>by rw[hfit] at hh; cases hh),hc.n1,hc.t1,by simp,fun _=>by simp,rfl⟩,fun x hx=>.inr ?_⟩;simp at hx;subst hx;exact hu
  ·rw[if_neg g3] at he ⊢;have h6:=hc.i1;refine⟨⟨hc.n0,hc.t0,(fun hh=>by rw[hfit] at hh; cases hh),hc.n1,hc.t1,?_,fun hh=>(g3 hh).elim,A6s.2 (B9O hpw hb)⟩,fun x hx=>?_⟩
   ·have:c.ids.length≠6:=fun hh=>by rw[if_pos hh] at he; omega
    simp only[List.length_append,List.length_take,List.length_cons,List.length_drop];omega
   ·rcases List.mem_append.1 hx with hx|hx
    ·exact .inl (List.mem_of_mem_take hx)
    ·rcases List.mem_cons.1 hx with rfl|hx
     ·exact .inr hu
     ·exact .inl (List.mem_of_mem_drop hx)
 ·rw[if_neg k5] at he ⊢;have hsub:(B2m c e.n).Sublist c.ids:=B5W _ _;have hle:=hsub.length_le;refine⟨⟨hc.n0,hc.t0,(fun hh=>by rw[hfit] at hh; cases hh),hc.n1,hc.t1,by have:=hc.i1; simp only; omega,fun hh=>by have:=hc.i3 hh; simp only; omega,A6s.2 (hpw.sublist hsub)⟩,fun x hx=>.inl (hsub.subset hx)⟩
theorem A4F{s s':I4}(h:s'.types=s.types){t:Tg}(ht:A4B s t):A4B s' t:=by
 refine⟨ht.ty0,by rw[h]; exact ht.ty1,ht.id1,ht.id2,by rw[h]; exact ht.len,by rw[h]; exact ht.cell⟩
theorem C3Y(f:Fd):B6o f cl0:=by
 refine⟨fun _=>rfl,fun _=>rfl,fun _=>rfl,?_,?_,?_,fun _=>?_,rfl⟩<;>simp[cl0]
theorem B4L{s:I4}(h:Rt s){e:Ev}(hn:I64 e.n)(he:A1c s e=0):Rt (A2m s e)/\(A2m s e).types=s.types:=by
 have ho:=C5i h he;have h2:0<=e.type/\e.type<=1000:=⟨ho.ty0,ho.ty2⟩;have h4:1<=e.id/\e.id<=999:=⟨ho.id1,ho.id2⟩;have hd:=ho.don;by_cases k1:e.kind=1
 ·unfold doE at hd;rw[if_pos k1] at hd;by_cases b:A3F s e=true
  ·rw[if_pos b] at hd; omega
  rw[if_neg b] at hd;by_cases b2:s.things.length=12
  ·rw[if_pos b2] at hd; omega
  have hb:F7 s.things e.type e.id=false:=eq_false_of_ne_true b;have hS:A2m s e=⟨s.types,s.things.take (H9 s e)++⟨e.type,e.id,List.replicate (D8 s.types e.type).length cl0⟩::s.things.drop (H9 s e)⟩:=by unfold A2m; rw[if_pos k1]
  rw[hS];have hm:∀t∈s.things.take (H9 s e)++⟨e.type,e.id,List.replicate (D8 s.types e.type).length cl0⟩::s.things.drop (H9 s e),t∈s.things\/t=⟨e.type,e.id,List.replicate (D8 s.types e.type).length cl0⟩:=fun t ht=>by
   rcases List.mem_append.1 ht with ht|ht
   ·exact .inl (List.mem_of_mem_take ht)
   ·rcases List.mem_cons.1 ht with ht|ht
    ·exact .inr ht
    ·exact .inl (List.mem_of_mem_drop ht)
  have hm':∀t∈s.things,t∈s.things.take (H9 s e)++⟨e.type,e.id,List.replicate (D8 s.types e.type).length cl0⟩::s.things.drop (H9 s e):=fun t ht=>by
   rw[←List.take_append_drop (H9 s e) s.things] at ht;rcases List.mem_append.1 ht with ht|ht
   ·exact List.mem_append_left _ ht
   ·exact List.mem_append_right _ (List.mem_cons_of_mem _ ht)
  refine⟨⟨h.chk,⟨h.r.sch,?_,fun t ht=>?_⟩,h.srt.insert h2 h4 hb ⟨rfl,rfl⟩,fun t ht k f c hf hc x hx=>?_⟩,rfl⟩
  ·have:=h.r.len;have:=B5P s.things e.type e.id;simp only[List.length_append,List.length_take,List.length_cons,List.length_drop];unfold H9;omega
  ·rcases hm t ht with ht|rfl
   ·exact A4F (s:=s) (by rfl) (h.r.tg t ht)
   ·refine⟨ho.ty0,ho.ty1,ho.id1,ho.id2,by simp,fun k c hc=>?_⟩;simp only[List.getElem?_replicate] at hc;split at hc
    ·injection hc with hc
     subst hc;unfold A0L;split
     ·exact B5X (C3Y _)
     ·rfl
    ·cases hc
  ·rcases hm t ht with ht|rfl
   ·obtain⟨u,hu,e1,e2⟩:=h.lnk t ht k f c hf hc x hx;exact⟨u,hm' u hu,e1,e2⟩
   ·simp only[List.getElem?_replicate] at hc;split at hc
    ·injection hc with hc
     subst hc;simp[cl0] at hx
    ·cases hc
 have hb:=B2t ho k1;by_cases k2:e.kind=2
 ·obtain⟨t0,ht0,e1,e2⟩:=h.srt.thereAt h2 h4 hb;have ht0':s.things[H9 s e]?=some t0:=ht0;unfold doE at hd;rw[if_neg k1,if_neg (by simp[hb]),if_pos k2] at hd;by_cases m:U4 (T8 s.types e) s.types s.things=false
  ·rw[if_pos m] at hd; omega
  have m:U4 (T8 s.types e) s.types s.things=true:=by simpa using m
  rw[B78] at m;have hS:A2m s e=⟨s.types,s.things.take (H9 s e)++s.things.drop (H9 s e+1)⟩:=by unfold A2m; rw[if_neg k1,if_pos k2]
  rw[hS];have hsub:(s.things.take (H9 s e)++s.things.drop (H9 s e+1)).Sublist s.things:=B5W _ _;refine⟨⟨h.chk,⟨h.r.sch,by have:=hsub.length_le; have:=h.r.len; simp only; omega,fun t ht=>A4F (s:=s) (by rfl) (h.r.tg t (hsub.subset ht))⟩,h.srt.sub hsub,fun t ht k f c hf hc x hx=>?_⟩,rfl⟩;have htm:=hsub.subset ht;obtain⟨u,hu,e3,e4⟩:=h.lnk t htm k f c hf hc x hx;refine⟨u,?_,e3,e4⟩;have hs:=A3G ht0';rw[hs] at hu;rcases List.mem_append.1 hu with hu|hu
  ·exact List.mem_append_left _ hu
  ·rcases List.mem_cons.1 hu with rfl|hu
   ·exfalso;obtain⟨f',hf',hco⟩:=(h.r.tg t htm).cellOk hc;have hf:(D8 s.types t.type)[k]?=some f:=hf;rw[hf] at hf'; injection hf' with hf'; subst hf'
    have hlk:g9 f.kind=true:=by
     cases hh:g9 f.kind with
     | true=>rfl
     | false=>rw[hco.i0 hh] at hx; cases hx
    exact m t htm k f c hf hc hlk (by rw[←e1]; exact e3.symm) (by rw[←e2,e4]; exact hx)
   ·exact List.mem_append_right _ hu
 ·have hk3:3<=e.kind:=by have:=ho.k1; omega
  obtain⟨t,f,c,hh⟩:=C5k h ho hk3;rw[hh.st];have htm:=List.mem_of_getElem? hh.tt;have htg:=h.r.tg t htm;obtain⟨f',hf',hco⟩:=htg.cellOk hh.cc;have hff:=hh.ff;rw[←hh.ty,hf'] at hff;injection hff with hff
  subst hff;obtain⟨g1,g2⟩:=C1t h hn ⟨hk3,ho.k2⟩ (B4K h.r.sch hf') hco hh.fits hh.che;have hkey:=B9Q (s:=s) (i:=H9 s e) (k:=e.field.toNat) (c:=t8 f' c e);have heq:=C1r (k:=e.field.toNat) (c:=t8 f' c e) hh.tt;have hmem:∀x∈(A6a s (H9 s e) e.field.toNat (t8 f' c e)).things,x∈s.things\/x=⟨t.type,t.id,t.cells.set e.field.toNat (t8 f' c e)⟩:=fun x hx=>by
   rw[heq] at hx;exact List.mem_or_eq_of_mem_set hx
  refine⟨⟨h.chk,⟨h.r.sch,by rw[heq]; simpa using h.r.len,fun x hx=>?_⟩,h.srt.key hkey,fun x hx k f c2 hf hc y hy=>?_⟩,rfl⟩
  ·rcases hmem x hx with hx|rfl
   ·exact A4F (s:=s) (by rfl) (h.r.tg x hx)
   ·refine⟨htg.ty0,htg.ty1,htg.id1,htg.id2,by rw[List.length_set]; exact htg.len,fun k c2 hc2=>?_⟩;simp only[List.getElem?_set] at hc2;by_cases hk:e.field.toNat=k
    ·subst hk;rw[if_pos rfl] at hc2;split at hc2
     ·injection hc2 with hc2
      subst hc2;show A0L (D8 s.types t.type) _ _=0;unfold A0L;rw[hf'];exact B5X g1
     ·cases hc2
    ·rw[if_neg hk] at hc2;exact htg.cell k c2 hc2
  ·have key:(∃u∈s.things,u.type=C4 s.types f.of/\u.id=y)->∃u∈(A6a s (H9 s e) e.field.toNat (t8 f' c e)).things,u.type=C4 s.types f.of/\u.id=y:=fun⟨u,hu,e1,e2⟩=>by
    obtain⟨v,hv,e3,e4⟩:=C1s hkey hu;exact⟨v,hv,e3.trans e1,e4.trans e2⟩
   refine key ?_;rcases hmem x hx with hx|rfl
   ·exact h.lnk x hx k f c2 hf hc y hy
   ·simp only[List.getElem?_set] at hc;by_cases hk:e.field.toNat=k
    ·subst hk;rw[if_pos rfl] at hc;split at hc
     ·injection hc with hc
      subst hc;have hf:(D8 s.types t.type)[e.field.toNat]?=some f:=hf;rw[hf'] at hf;injection hf with hf
      subst hf;rcases g2 y hy with h1|h1
      ·exact h.lnk t htm _ _ c hf' hh.cc y h1
      ·exact h1
     ·cases hc
    ·rw[if_neg hk] at hc;exact h.lnk t htm k f c2 hf hc y hy
end Go.Am
