/- Parts of the proof: an abstract machine for Go functions, and what functions of the program give back (Ex17, Lt7, Am63, CcD, Ow1, Ow2, Ow3, Do1, Do2, In1, In2, In3). No condition. -/
import Derived.Test.YtphjabjjnncebaaGreatDoorXJ
import Derived.Test.YtphjabjjnncebaaGreatDoorXG
import Derived.Test.YtphjabjjnncebaaGreatDoorXI
import Derived.Test.YtphjabjjnncebaaGreatDoorXF
import Derived.Shelf.Spec.SlicesInsert
import Derived.Laws.CopyRow
import Derived.Shelf.Spec.SlicesInsertGrow
import Derived.Lib.SliceRun
import Derived.Deep.RegionLaw
set_option maxRecDepth 100000
set_option linter.all false
set_option maxHeartbeats 4000000
namespace Go.Am
open Go Go.Proofs Go.RowKit
theorem A2n{p:Fd->Cl->Bool}:∀{fs:List Fd} {cs:List Cl},P7 p fs cs=true->∀(k:Nat) f c,fs[k]?=some f->cs[k]?=some c->p f c=true
 | [],cs,_=>by simp
 | f::fs,[],_=>by simp
 | f::fs,c::cs,h=>by
  rw[P7,yh] at h;obtain⟨h1,h2⟩:=h;intro k f' c' hf hc;cases k with
  | zero=>simp at hf hc; subst hf hc; exact h1
  | succ k=>exact A2n h2 k f' c' (by simpa using hf) (by simpa using hc)
structure RtL(s:F1):Prop where
 r:RtS s
 srt:Srt s.things
 lnk:∀t∈s.things,∀(k:Nat) f c,(C2 s.types t.type)[k]?=some f->t.cells[k]?=some c->∀x∈c.ids,I64 x->F9 s f x=true
theorem B5K{s:F1}(h:fSt s=0):RtL s:=by
 have hs:=A8d h;unfold fSt at h;split at h
 ·rename_i g; exact (g h).elim
 split at h
 ·cases h
 split at h
 ·rename_i g; exact (g h).elim
 rename_i g;split at h
 ·rename_i g2;refine⟨hs,(B2E hs.sch (zm g)).2,fun t ht k f c hf hc x hx _=>?_⟩;simp only[M2,yq] at g2;have:=A2n (g2 t ht) k f c hf hc;simp only[vq,List.any_eq_false] at this;simpa using this x hx
 ·cases h
theorem B3s{l:List Tg}(h:Srt l){u v:Tg}(hu:u∈l)(hv:v∈l)(h1:u.type=v.type)(h2:u.id=v.id):u=v:=by
 obtain⟨i,hi⟩:=yk.1 hu;obtain⟨j,hj⟩:=yk.1 hv;rcases vp i j with g|g|g
 ·have:=h.asc i j u v g hi hj;simp[T4,h1,h2] at this
 ·subst g; rw[hi] at hj; simpa using hj
 ·have:=h.asc j i v u g hj hi;simp[T4,h1,h2] at this
theorem B2F{s:F1}(hs:RtL s){kd x:Int}(hk : -1<=kd/\kd<=5)(hx:I64 x){u:Tg}(hu:u∈s.things)(h1:u.type=kd)(h2:u.id=x):thA s kd x=some u/\∃k:Nat,B68 s.things kd x=(k:Int)/\s.things[k]?=some u:=by
 obtain⟨j,hj⟩:=yk.1 hu;have hf:=hs.srt.found hj;rw[h1,h2] at hf;have hi:A6L kd x u=true:=by simp[A6L,h1,h2]
 have hb:C3 s.things kd x=true:=by
  rw[hs.srt.findB (by omega) hx,ur];exact⟨u,hu,hi⟩
 refine⟨by unfold thA; rw[zk hb,hf,hj],?_⟩;rcases L5 (A6L kd x) s.things 0 with⟨r1,r2⟩|⟨k,t,r1,r2,r3⟩
 ·have:=List.find?_eq_none.1 r1 u hu;exact (this hi).elim
 ·have ht:=List.find?_some r3;simp[A6L] at ht;have:=B3s hs.srt (zf r1) hu (by rw[ht.1,h1]) (by rw[ht.2,h2]);subst this;exact⟨k,by unfold B68; rw[r2]; simp,r1⟩
def B3t:List UInt8:=[105,100,50]
def A4X:List UInt8:=[111,116,104,101,114]
def kC:List D7:=[.mk [] o7 [] [],.mk B3t o7 [] []]
def qC(al tn:List UInt8)(ar:List Ag):D7:=.mk al tn ar kC
def oC(t:Tg):H3:=l3 [o7,B3t] [A0L t.id,A0L t.id]
theorem B6Z(s:F1)(u:Tg):oL s kC u=[A0L u.id,A0L u.id]:=by simp[kC,oL,oS]
theorem B6a(s:F1)(u:Tg):wL s kC u=2:=by simp[kC,wL,wS]
theorem A7k:kC.map B8=[o7,B3t]:=by decide
theorem B4Y{s:F1}(hs:RtL s){kd:Int}(hk : -1<=kd/\kd<=5){t:Tg}(ht:t∈s.things)(h1:t.type=kd)(hx:I64 t.id):thO s [o7,B3t] (oL s kC) kd t.id=oC t:=by
 unfold thO;rw[(B2F hs hk hx ht h1 rfl).1];simp only[B6Z];rfl
theorem B69{s:F1}(hs:RtL s){kd:Int}(hk : -1<=kd/\kd<=5){al tn:List UInt8}(hkd:A8 s.types tn=kd)(hI:∀t∈s.things,I64 t.id):rtO s (qC al tn [])=P3 ((s.things.filter fun t=>t.type==kd).map oC):=by
 have e:rtO s (qC al tn [])=P3 ((Q4 s (A8 s.types tn) s.things).map (thO s (kC.map B8) (oL s kC) (A8 s.types tn))):=by simp[rtO,qC,D7.args,D7.kids,D7.name]
 rw[e,hkd,A7k];unfold Q4;rw[xv];congr 1
 refine wd fun t ht=>?_;obtain⟨h1,h2⟩:=ue.1 ht;exact B4Y hs hk h1 (by simpa using h2) (hI t h1)
theorem B6A{s:F1}(hs:RtL s){kd:Int}(hk : -1<=kd/\kd<=5){al tn:List UInt8}(hkd:A8 s.types tn=kd){t:Tg}(ht:t∈s.things)(h1:t.type=kd)(hx:I64 t.id):rtO s (qC al tn [⟨o7,false,[],t.id⟩])=oC t:=by
 have e:rtO s (qC al tn [⟨o7,false,[],t.id⟩])=thO s (kC.map B8) (oL s kC) (A8 s.types tn) t.id:=by simp[rtO,qC,D7.args,D7.kids,D7.name]
 rw[e,hkd,A7k];exact B4Y hs hk ht h1 hx
theorem B4Z(s:F1)(kd x:Int):thW s (wL s kC) kd x<=3:=by
 unfold thW;cases thA s kd x with
 | none=>simp
 | some u=>simp[B6a]
theorem B5L{s:F1}(hl:s.things.length<=12)(al tn:List UInt8)(ar:List Ag):qW s [qC al tn ar]<=2000:=by
 have e:qW s [qC al tn ar]=1+rtW s (qC al tn ar):=by simp[qW,A8e]
 rw[e];unfold qC;unfold rtW;simp only[D7.args,D7.kids,D7.name];split
 ·have h1:=A2B s (A8 s.types tn) s.things;have h2:∀l:List Int,(l.map (thW s (wL s kC) (A8 s.types tn))).sum<=3*l.length:=fun l=>by
   induction l with
   | nil=>simp
   | cons a r ih=>have:=B4Z s (A8 s.types tn) a; simp; omega
  have:=h2 (Q4 s (A8 s.types tn) s.things);omega
 ·rename_i a r;have:=B4Z s (A8 s.types tn) a.n;omega
theorem B6b{al tn:List UInt8}{ar:List Ag}(h1:F2 tn=0)(h2:al=[]\/al=A4X)(h3:U3 ar=0):N6 [qC al tn ar]=0:=by
 have hk:N7 kC []=0:=by decide
 have hm:N2 5 [qC al tn ar]=3:=by simp[N2,qC,kC,D7.kids]
 have hd:J2 5 [qC al tn ar]=2:=by simp[J2,qC,kC,D7.kids]
 have hs:A2k (qC al tn ar) []=0:=by
  unfold A2k qC;simp only[D7.name,D7.alias,D7.args];have ho:F2 A4X=0:=by decide
  rcases h2 with rfl|rfl<;>simp[h1,h3,ho]
 unfold N6;rw[hm,hd,zh (by simp),zh (by omega)];simp only[N7,hs,A1j];simp[qC,D7.kids,hk]
theorem B5M{s:F1}(hc:F8 s.types=0){al:List UInt8}{ty:Ty}{ar:List Ag}(ht:V0 s.types ty.name=some ty)(h1:F2 ty.name=0)(h2:al=[]\/al=A4X)(h3:U3 ar=0)(h4:J3 ar o7 true 1 999=0):M0 s.types [qC al ty.name ar]=0:=by
 unfold M0;rw[zh (by simp[hc]),zh (by simp[B6b h1 h2 h3])];have hk:X4 s.types ty kC=0:=by simp[kC,X4,A8Y,fieldAt,J3,U9]
 have hr:A1k s.types (qC al ty.name ar)=0:=by
  have e:A1k s.types (qC al ty.name ar)=match V0 s.types ty.name with
    | none=>5
    | some t=>if J3 ar o7 true 1 999≠0 then J3 ar o7 true 1 999 else if kC=[] then 4 else X4 s.types t kC:=rfl
  rw[e,ht];simp[h4,hk];simp[kC]
 simp[Y8,U9,hr]
theorem B2G{x:Int}(h:1<=x/\x<=999):U3 [⟨o7,false,[],x⟩]=0/\J3 [⟨o7,false,[],x⟩] o7 true 1 999=0:=by
 have hn:F2 o7=0:=by decide
 constructor
 ·simp[U3,B9,A0Z,hn,B5B,B1o]; omega
 ·simp[J3,U9,A0b]; omega
end Go.Am
namespace Go.Am
theorem A2E{id n0:Nat}(h:id+1024<=n0):(id+1<n0)=True:=by simp; omega
theorem A0v{id n0:Nat}(h:id+1024<=n0)(t:Nat):(id+1=n0+t)=False:=by simp; omega
theorem x6{id n0:Nat}(h:id+1024<=n0)(t:Nat):(n0+t=id+1)=False:=by simp; omega
theorem x7{id n0:Nat}(h:id+1024<=n0):(id+1=n0)=False:=by simp; omega
theorem c9{id n0:Nat}(h:id+1024<=n0):(n0=id+1)=False:=by simp; omega
theorem A2F{i id:Nat}(h:i<id\/id+1024<=i):(i=id+1)=False:=by simp; omega
theorem A0w{i id:Nat}(h:i<id\/id+1024<=i):(id+1=i)=False:=by simp; omega
end Go.Am
namespace Go.Am
open Go Go.Proofs Go.RowKit
theorem A8i(l:List Fd)(id:Nat)(hl8:l.length<=1000000):A2 Tryz.prog 252 [.sl (l.map M4)] [] id (.bsl id 0 l.length) [(id,some ⟨l.map M4,.agg [.str [],.int .i64 0,.str []],false,false⟩)]:=by
 refine A8O w252.hf w252.hc w252.hn w252.hr (by simp[Tryz.ntmps252]) fun E hP hR hl hid=>?_;refine A6 9 ?_;simp[w252];refine B4T (s:=0) (d:=3) (e:=4) (xs:=l.map M4) (by simp) (by decide) (fun hx=>?_) ?_
 ·refine A6 10 ?_;simp;have hx:l=[]:=by simpa using hx
  subst hx;refine A23 (H0.voidSlot 2 (x:=.nils) (y:=.bsl (E.n0+4096) 0 0) (by simp) .nils (.agg [.str [],.int .i64 0,.str []])) ?_;refine A6 4000 ?_;simp;refine yE hR [(id,E.n0+4096)] (by simp[B2 hid]) fun hrn=>⟨?_,?_,?_,?_,?_,?_⟩<;>(try simp[B2 hid])
 ·refine A6 4000 ?_;simp;refine⟨⟨fun a _=>by simp[M4],by omega,by omega⟩,?_⟩;refine yE hR [(id,E.n0+5120)] (by simp[B2 hid]) fun hrn=>⟨?_,?_,?_,?_,?_,?_⟩<;>(try simp[B2 hid])
theorem A7l(l:List Int)(id:Nat)(hl8:l.length<=1000000):A2 Tryz.prog 183 [.sl (l.map eI)] [] id (.bsl id 0 l.length) [(id,some ⟨l.map eI,.int .i64 0,false,false⟩)]:=by
 refine A8O w183.hf w183.hc w183.hn w183.hr (by simp[Tryz.ntmps183]) fun E hP hR hl hid=>?_;refine A6 9 ?_;simp[w183];refine B4T (s:=0) (d:=3) (e:=4) (xs:=l.map eI) (by simp) (by decide) (fun hx=>?_) ?_
 ·refine A6 10 ?_;simp;have hx:l=[]:=by simpa using hx
  subst hx;refine A23 (H0.voidSlot 2 (x:=.nils) (y:=.bsl (E.n0+4096) 0 0) (by simp) .nils (.int .i64 0)) ?_;refine A6 4000 ?_;simp;refine yE hR [(id,E.n0+4096)] (by simp[B2 hid]) fun hrn=>⟨?_,?_,?_,?_,?_,?_⟩<;>(try simp[B2 hid])
 ·refine A6 4000 ?_;simp;refine⟨⟨fun a _=>by simp[eI],by omega,by omega⟩,?_⟩;refine yE hR [(id,E.n0+5120)] (by simp[B2 hid]) fun hrn=>⟨?_,?_,?_,?_,?_,?_⟩<;>(try simp[B2 hid])
theorem B0U(l:List Ty)(id:Nat)(hl8:l.length<=1000)(hf8:∀t∈l,t.fields.length<=1000):A2 Tryz.prog 182 [.sl (l.map H6)] [] id (.sl (l.map H6)) []:=by
 refine w182.e.1 fun E hP hR hl hid=>?_;simp[w182];refine C8 (X:=Nat) (fun i=>⟨[(3,true,.bsl E.n0 0 i),(6,true,.sl (l.map H6)),(7,true,.int .i64 l.length),(8,true,.int .i64 i)],[(E.n0,some ⟨(l.map H6).take i,.agg [.str [],.nils],false,false⟩)],1⟩) (fun i=>i<=l.length) (fun i=>l.length - i) 0 ?_ (by omega) ?_
 ·refine H0.trans (H0.voidSlot 3 (x:=.nils) (y:=.bsl (E.n0+5120) 0 0) (by simp) .nils (.agg [.str [],.nils])) ?_;refine yV [(E.n0,E.n0+5120)] (by simp) fun hrn=>⟨?_,?_,?_,?_,?_⟩<;>(try simp)
 ·rintro i hi p hp;refine A6 4000 ?_;simp;refine C9 (fun h=>?_) (fun h=>?_)
  ·have h:=zp h;obtain⟨x,hx,hd⟩:=B6 h;have hi1:IntKind.i64.wrap ((i:Int)+1)=((i+1:Nat):Int):=wrap64 (by omega);have hx6:=hf8 x (zf hx);have htk:(l.map H6).take (i+1)=(l.map H6).take i++[.agg [.str x.name,.sl (x.fields.map M4)]]:=(by rw[xw,ye,hx]; rfl);simp[hx,H6];refine⟨h,?_⟩;(refine yH rfl (A8i x.fields _ (by omega)) ?_; simp);refine⟨⟨by omega,by omega,by omega⟩,?_⟩;refine hp _ (i+1) (by omega) (by omega) ?_;refine yV [(E.n0,E.n0+13313)] (by simp[hi1,htk]) fun hrn=>⟨?_,?_,?_,?_,?_⟩<;>(try simp[hi1,htk]);all_goals exact F7 rfl (by rw[←yr]; exact I5 (A7N _) (by simp))
  ·have h:=zq h;simp;have:l.take i=l:=zn (by omega);have hil:i=l.length:=(by omega);subst hil;have hrn:I0 []:=(by simp[B2 hid]);rw[hR];refine n9 (by simp<;>rfl) (by simp[B2 hid]<;>exact⟨rfl,rfl⟩) [] hrn ⟨?_,?_,?_,?_,?_,?_⟩<;>(try simp[B2 hid])
def zC:AV:=.agg [.int .i64 0,.str [],.nils]
def zT:AV:=.agg [.int .i64 0,.int .i64 0,.nils]
def eCo(t q k:Nat)(c:Cl):AV:=.agg [.int .i64 c.n,.str c.text,.bsl (t+16+16*q+k) 0 c.ids.length]
def P4(t q:Nat)(l:List Cl):Nat->List AV
 | 0=>[]
 | k+1=>match l[k]? with
  | some c=>P4 t q l k++[eCo t q k c]
  | none=>P4 t q l k
def eTo(t q:Nat)(x:Tg):AV:=.agg [.int .i64 x.type,.int .i64 x.id,.bsl (t+1+q) 0 x.cells.length]
def L6(t:Nat)(l:List Tg):Nat->List AV
 | 0=>[]
 | i+1=>match l[i]? with
  | some x=>L6 t l i++[eTo t i x]
  | none=>L6 t l i
def iBx(c:Cl):Bx:=⟨c.ids.map eI,.int .i64 0,false,false⟩
def cBx(t q:Nat)(x:Tg):Bx:=⟨P4 t q x.cells x.cells.length,zC,false,false⟩
def Z8(t q:Nat)(l:List Cl):Nat->List (Nat×Option Bx)
 | 0=>[]
 | k+1=>match l[k]? with
  | some c=>(t+16+16*q+k,some (iBx c))::Z8 t q l k
  | none=>Z8 t q l k
def I8(t:Nat)(l:List Tg):Nat->List (Nat×Option Bx)
 | 0=>[]
 | i+1=>match l[i]? with
  | some x=>(t+1+i,some (cBx t i x))::(Z8 t i x.cells x.cells.length++I8 t l i)
  | none=>I8 t l i
theorem A5M(t q:Nat)(l:List Cl):∀k,k<=l.length->(P4 t q l k).length=k
 | 0,_=>rfl
 | k+1,h=>by
  rw[P4,zd (by omega)];simp[A5M t q l k (by omega)]
theorem A5N(t:Nat)(l:List Tg):∀k,k<=l.length->(L6 t l k).length=k
 | 0,_=>rfl
 | k+1,h=>by
  rw[L6,zd (by omega)];simp[A5N t l k (by omega)]
theorem T5{t q:Nat}{l:List Cl}:∀{k:Nat} {y:Nat} {b:Option Bx},(y,b)∈Z8 t q l k->∃m c,m<k/\l[m]?=some c/\y=t+16+16*q+m/\b=some (iBx c)
 | 0,y,b,h=>by cases h
 | k+1,y,b,h=>by
  rw[Z8] at h;cases hc:l[k]? with
  | none =>
   rw[hc] at h;obtain⟨m,c,h1,h2⟩:=T5 h;exact⟨m,c,by omega,h2⟩
  | some c =>
   rw[hc] at h;rcases zi.1 h with h|h
   ·injection h with h1 h2
    exact⟨k,c,by omega,hc,h1,h2⟩
   ·obtain⟨m,c,h1,h2⟩:=T5 h;exact⟨m,c,by omega,h2⟩
theorem A2G{t:Nat}{l:List Tg}:∀{i:Nat} {y:Nat} {b:Option Bx},(y,b)∈I8 t l i->∃j x,j<i/\l[j]?=some x/\((y=t+1+j/\b=some (cBx t j x))\/(y,b)∈Z8 t j x.cells x.cells.length)
 | 0,y,b,h=>by cases h
 | i+1,y,b,h=>by
  rw[I8] at h;cases hx:l[i]? with
  | none =>
   rw[hx] at h;obtain⟨j,x,h1,h2⟩:=A2G h;exact⟨j,x,by omega,h2⟩
  | some x =>
   rw[hx] at h;rcases zi.1 h with h|h
   ·injection h with h1 h2
    exact⟨i,x,by omega,hx,.inl ⟨h1,h2⟩⟩
   ·rcases zo.1 h with h|h
    ·exact⟨i,x,by omega,hx,.inr h⟩
    ·obtain⟨j,x,h1,h2⟩:=A2G h;exact⟨j,x,by omega,h2⟩
theorem A7m(S:Nat->Prop)(l:List Int):∀x∈l.map eI,A4 S x:=fun x hx=>by
 obtain⟨n,_,rfl⟩:=yi.1 hx;exact L0 _ rfl
theorem X5{t q:Nat}{l:List Cl}{S:Nat->Prop}:∀{k:Nat},(∀m,m<k->S (t+16+16*q+m))->∀x∈P4 t q l k,A4 S x
 | 0,_,x,h=>by cases h
 | k+1,hS,x,h=>by
  rw[P4] at h;cases hc:l[k]? with
  | none=>rw[hc] at h; exact X5 (fun m hm=>hS m (by omega)) x h
  | some c =>
   rw[hc] at h;rcases zo.1 h with h|h
   ·exact X5 (fun m hm=>hS m (by omega)) x h
   ·simp at h;subst h;simp only[eCo,A4,D9];exact⟨trivial,trivial,hS k (by omega),trivial⟩
theorem X6{t:Nat}{l:List Tg}{S:Nat->Prop}:∀{i:Nat},(∀m,m<i->S (t+1+m))->∀x∈L6 t l i,A4 S x
 | 0,_,x,h=>by cases h
 | i+1,hS,x,h=>by
  rw[L6] at h;cases hc:l[i]? with
  | none=>rw[hc] at h; exact X6 (fun m hm=>hS m (by omega)) x h
  | some c =>
   rw[hc] at h;rcases zo.1 h with h|h
   ·exact X6 (fun m hm=>hS m (by omega)) x h
   ·simp at h;subst h;simp only[eTo,A4,D9];exact⟨trivial,trivial,hS i (by omega),trivial⟩
theorem A1K{t q:Nat}{l:List Cl}{S:Nat->Prop}(k:Nat)(hS:∀m,m<k->S (t+16+16*q+m)):U2 S (Z8 t q l k):=by
 induction k with
 | zero=>exact U2.nil _
 | succ k ih =>
  rw[Z8];cases hc:l[k]? with
  | none=>exact ih fun m hm=>hS m (by omega)
  | some c =>
   refine (ih fun m hm=>hS m (by omega)).cons (hS k (by omega)) (fun p hp=>?_) (A7m _ _);obtain⟨y,b⟩:=p;obtain⟨m,c,h1,_,h2,_⟩:=T5 hp;simp only; omega
theorem d0{t:Nat}{l:List Tg}(h6:∀x∈l,x.cells.length<=16){i:Nat}{y:Nat}{b:Option Bx}(h:(y,b)∈I8 t l i):(∃j,j<i/\y=t+1+j)\/∃j m,j<i/\m<16/\y=t+16+16*j+m:=by
 obtain⟨j,x,h1,h2,h3⟩:=A2G h;rcases h3 with⟨h3,_⟩|h3
 ·exact .inl ⟨j,h1,h3⟩
 ·obtain⟨m,c,h4,_,h5,_⟩:=T5 h3;have:=h6 x (zf h2);exact .inr ⟨j,m,h1,by omega,h5⟩
theorem M7{t:Nat}{l:List Tg}{S:Nat->Prop}(h6:∀x∈l,x.cells.length<=16)(i:Nat)(hi:i<=12)(hS1:∀j,j<i->S (t+1+j))(hS2:∀j m,j<i->m<16->S (t+16+16*j+m)):U2 S (I8 t l i):=by
 induction i with
 | zero=>exact U2.nil _
 | succ i ih =>
  rw[I8];have ih:=ih (by omega) (fun j hj=>hS1 j (by omega)) fun j m hj hm=>hS2 j m (by omega) hm;cases hx:l[i]? with
  | none=>exact ih
  | some x =>
   have hx6:=h6 x (zf hx);have ha:U2 S (Z8 t i x.cells x.cells.length++I8 t l i):=(A1K _ fun m hm=>hS2 i m (by omega) (by omega)).append ih fun p hp p' hp' e=>by
    obtain⟨y,b⟩:=p;obtain⟨y',b'⟩:=p';simp only at e;subst e;obtain⟨m,c,h1,_,h2,_⟩:=T5 hp;rcases d0 h6 hp' with⟨j,h3,h4⟩|⟨j,m',h3,h4,h5⟩<;>omega
   refine ha.cons (hS1 i (by omega)) (fun p hp=>?_) (X5 fun m hm=>hS2 i m (by omega) (by omega));obtain⟨y,b⟩:=p;rcases zo.1 hp with hp|hp
   ·obtain⟨m,c,h1,_,h2,_⟩:=T5 hp;simp only; omega
   ·rcases d0 h6 hp with⟨j,h3,h4⟩|⟨j,m',h3,h4,h5⟩<;>(simp only; omega)
theorem A0J.of{R:Rn}{S:Nat->Prop}{bx':List (Nat×Option Bx)}{fin:Nat->Option Bx}:∀{l:List Nat},(∀y∈l,∀b',fin y=some b'->∃x b,R.ρ y=some x/\Am.bk bx' x=some b/\BxR R S b b')->A0J R S bx' fin l
 | [],_=>trivial
 | y::l,h=>by
  refine⟨?_,A0J.of fun z hz=>h z (za _ hz)⟩;cases hf:fin y with
  | none=>trivial
  | some b'=>exact h y (zb ..) b' hf
theorem V3{B:Nat->Option Bx}:∀{wr:List (Nat×Option Bx)} {y:Nat},(∀q∈wr,q.1≠y)->D8 B wr y=B y
 | [],_,_=>rfl
 | (z,b)::l,y,h=>by
  rw[D8,V3 fun q hq=>h q (za _ hq)];exact A7 _ _ _ (fun e=>h (z,b) (zb ..) e.symm)
theorem A47{B:Nat->Option Bx}:∀{wr:List (Nat×Option Bx)} {y:Nat} {b:Option Bx},(wr.map Prod.fst).Nodup->(y,b)∈wr->D8 B wr y=b
 | [],_,_,_,h=>by cases h
 | (z,c)::l,y,b,hn,h=>by
  rw[yd,yw] at hn;rw[D8];rcases zi.1 h with e|h
  ·injection e with e1 e2
   subst e1 e2;rw[V3 fun q hq e=>hn.1 (yi.2 ⟨q,hq,e⟩),B5]
  ·exact A47 hn.2 h
theorem A5O{B:Nat->Option Bx}:∀{wr:List (Nat×Option Bx)} {y:Nat} {b:Bx},D8 B wr y=some b->(y,some b)∈wr\/B y=some b
 | [],y,b,h=>.inr h
 | (z,c)::l,y,b,h=>by
  rw[D8] at h;rcases A5O h with h|h
  ·exact .inl (za _ h)
  ·by_cases e:y=z
   ·subst e;rw[B5] at h;subst h;exact .inl (zb ..)
   ·rw[A7 _ _ _ e] at h;exact .inr h
theorem A5P{id:Nat}{rd:List (Nat×Option Bx)}:∀{l:List (Nat×Option Bx)},(∀q∈l,H5 q.1 rd\/(id<=q.1/\q.1<id+1024))->A3g id rd l
 | [],_=>trivial
 | (y,b)::l,h=>⟨h _ (zb ..),A5P fun q hq=>h q (za _ hq)⟩
def A9V(R:Rn)(t t':Nat):Prop:=∀o,1<=o->o<1000->R.ρ (t'+o)=some (t+o)
theorem A2H{R:Rn}{S:Nat->Prop}{t t' q:Nat}{l:List Cl}(h:A9V R t t')(hq:q<12):∀k,k<=16->K2 R S (P4 t q l k) (P4 t' q l k)
 | 0,_=>.nil
 | k+1,hk=>by
  rw[P4,P4];cases hc:l[k]? with
  | none=>exact A2H h hq k (by omega)
  | some c =>
   refine S8 (A2H h hq k (by omega)) (.cons _ _ _ _ (.agg _ _ ?_) .nil);refine .cons _ _ _ _ (.same _ trivial) (.cons _ _ _ _ (.same _ trivial) (.cons _ _ _ _ (.bsl _ _ _ _ ?_) .nil));have:=h (16+16*q+k) (by omega) (by omega);rw[show t'+16+16*q+k=t'+(16+16*q+k) by omega,show t+16+16*q+k=t+(16+16*q+k) by omega];exact this
theorem A2I{R:Rn}{S:Nat->Prop}{t t':Nat}{l:List Tg}(h:A9V R t t'):∀i,i<=12->K2 R S (L6 t l i) (L6 t' l i)
 | 0,_=>.nil
 | i+1,hi=>by
  rw[L6,L6];cases hc:l[i]? with
  | none=>exact A2I h i (by omega)
  | some x =>
   refine S8 (A2I h i (by omega)) (.cons _ _ _ _ (.agg _ _ ?_) .nil);refine .cons _ _ _ _ (.same _ trivial) (.cons _ _ _ _ (.same _ trivial) (.cons _ _ _ _ (.bsl _ _ _ _ ?_) .nil));have:=h (1+i) (by omega) (by omega);rw[show t'+1+i=t'+(1+i) by omega,show t+1+i=t+(1+i) by omega];exact this
theorem A48{t t' q:Nat}{l:List Cl}:∀{k:Nat} {o:Nat} {b:Option Bx},(t'+o,b)∈Z8 t' q l k->(t+o,b)∈Z8 t q l k
 | 0,o,b,h=>by cases h
 | k+1,o,b,h=>by
  rw[Z8] at h ⊢;cases hc:l[k]? with
  | none=>rw[hc] at h; exact A48 h
  | some c =>
   rw[hc] at h;rcases zi.1 h with h|h
   ·injection h with h1 h2
    subst h2;have:o=16+16*q+k:=by omega
    subst this;rw[show t+(16+16*q+k)=t+16+16*q+k by omega];exact zb ..
   ·exact za _ (A48 h)
theorem A2J{R:Rn}{S:Nat->Prop}{t t':Nat}{l:List Tg}(h6:∀x∈l,x.cells.length<=16)(hR:A9V R t t'):∀{i:Nat} {y:Nat} {b:Bx},i<=12->(y,some b)∈I8 t' l i->∃o b0,1<=o/\o<1000/\y=t'+o/\(t+o,some b0)∈I8 t l i/\BxR R S b0 b
 | 0,y,b,_,h=>by cases h
 | i+1,y,b,hi,h=>by
  rw[I8] at h;rw[I8];cases hc:l[i]? with
  | none=>rw[hc] at h; exact A2J h6 hR (by omega) h
  | some x =>
   have hx6:=h6 x (zf hc);rw[hc] at h;rcases zi.1 h with h|h
   ·injection h with h1 h2
    injection h2 with h2
    subst h1 h2;refine⟨1+i,cBx t i x,by omega,by omega,by omega,?_,⟨A2H hR (by omega) _ hx6,rfl,rfl,rfl⟩⟩;rw[show t+(1+i)=t+1+i by omega];exact zb ..
   ·rcases zo.1 h with h|h
    ·obtain⟨m,c,h1,h2,h3,h4⟩:=T5 h;injection h4 with h4
     subst h4 h3;refine⟨16+16*i+m,iBx c,by omega,by omega,by omega,za _ (yn _ ?_),⟨F7 rfl (c8 _),rfl,rfl,rfl⟩⟩;exact A48 (t':=t') (by rw[show t'+(16+16*i+m)=t'+16+16*i+m by omega]; exact h)
    ·obtain⟨o,b0,q1,q2,q3,q4,q5⟩:=A2J h6 hR (by omega) h;exact⟨o,b0,q1,q2,q3,za _ (zx _ q4),q5⟩
def V4(id a:Nat):Nat->List (Nat×Nat)
 | 0=>[]
 | n+1=>(id+(n+1),a+(n+1))::V4 id a n
theorem A1L{id a:Nat}:∀{n:Nat} {q:Nat×Nat},q∈V4 id a n->∃o,1<=o/\o<=n/\q=(id+o,a+o)
 | 0,q,h=>by cases h
 | n+1,q,h=>by
  rw[V4] at h;rcases zi.1 h with h|h
  ·exact⟨n+1,by omega,by omega,h⟩
  ·obtain⟨o,h1,h2,h3⟩:=A1L h;exact⟨o,h1,by omega,h3⟩
theorem A0g{id a b:Nat}:∀{n:Nat},(∀o,1<=o->o<=n->b≠a+o)->M6 (V4 id a n) b=false
 | 0,_=>rfl
 | n+1,h=>by
  rw[V4,M6,zh (h (n+1) (by omega) (by omega))];exact A0g fun o h1 h2=>h o h1 (by omega)
theorem A5Q{id a:Nat}:∀n,I0 (V4 id a n)
 | 0=>trivial
 | n+1=>⟨A0g fun o h1 h2=>by omega,A5Q n⟩
theorem A5R{id a o:Nat}:∀{n:Nat},1<=o->o<=n->Y3 (V4 id a n) (id+o)=some (a+o)
 | 0,h1,h2=>by omega
 | n+1,h1,h2=>by
  rw[V4,Y3];by_cases e:o=n+1
  ·subst e; simp
  ·rw[zh (by omega)];exact A5R h1 (by omega)
theorem A7n{a b:Nat}:∀{l:List (Nat×Nat)},(∀q∈l,a<=q.1/\q.1<b)->A2e a b l
 | [],_=>trivial
 | (y,z)::l,h=>⟨h _ (zb ..),A7n fun q hq=>h q (za _ hq)⟩
theorem A5S{n0:Nat}{bx':List (Nat×Option Bx)}:∀{l:List (Nat×Nat)},(∀q∈l,n0<=q.2)->A0T n0 bx' l
 | [],_=>trivial
 | (y,z)::l,h=>⟨.inl (h _ (zb ..)),A5S fun q hq=>h q (za _ hq)⟩
theorem A7o(s:F1)(id:Nat)(h5:s.types.length<=1000)(h6:∀t∈s.types,t.fields.length<=1000)(h12:s.things.length<=12)(hc6:∀x∈s.things,x.cells.length<=16/\∀c∈x.cells,c.ids.length<=1000):
  A2 Tryz.prog 117 [B4 s] [] id (.agg [.sl (s.types.map H6),.bsl id 0 s.things.length]) ((id,some ⟨L6 id s.things s.things.length,zT,false,false⟩)::I8 id s.things s.things.length):=by
 unfold B4;refine w117.e.1 fun E hP hR hl hid=>?_;simp[w117];(refine yH rfl (B0U s.types _ h5 h6) ?_; simp);refine C8 (X:=Nat) (fun i=>⟨[(2,true,.ptr (E.n0+1) 0 0),(3,true,.ptr (E.n0+2) 0 0),(14,true,.sl (s.things.map M5)),(15,true,.int .i64 s.things.length),(16,true,.int .i64 i)],
  (E.n0+1,some ⟨[.agg [.nils,.nils]],.agg [.nils,.nils],false,false⟩)::(E.n0+2,some ⟨[.agg [.sl (s.types.map H6),.bsl (E.n0+3) 0 i]],.agg [.nils,.nils],false,false⟩)::(E.n0+3,some ⟨L6 (E.n0+16) s.things i,zT,false,false⟩)::I8 (E.n0+16) s.things i,1024⟩) (fun i=>i<=s.things.length) (fun i=>s.things.length - i) 0 ?_ (by omega) ?_
 ·refine H0.trans (H0.voidBox (E.n0+6144) (by simp; rfl) rfl (.agg [.sl (s.types.map H6),.nils] [.sl (s.types.map H6),.bsl (E.n0+12288) 0 0] rfl (fun m x y h1 h2=>?_)) zT) ?_
  ·match m,h1,h2 with
   | 0,h1,h2=>simp at h1 h2; exact .inl (h1.symm.trans h2)
   | 1,h1,h2=>simp at h1 h2; exact .inr ⟨h1.symm,h2.symm⟩
   | m+2,h1,h2=>simp at h1
  have hrn:I0 [(E.n0+1,E.n0+1024),(E.n0+2,E.n0+6144),(E.n0+3,E.n0+12288)]:=by simp[I8,L6]
  refine H0.subK [(E.n0+1,E.n0+1024),(E.n0+2,E.n0+6144),(E.n0+3,E.n0+12288)] hrn ?_ ?_ ?_ ?_ ?_<;>(try simp[I8,L6])
 ·rintro i hi p hp;refine A6 4000 ?_;simp;refine C9 (fun h=>?_) (fun h=>?_)
  ·have h:=zp h;obtain⟨x,hx,hd⟩:=B6 h;have hi1:IntKind.i64.wrap ((i:Int)+1)=((i+1:Nat):Int):=wrap64 (by omega);simp[hx,A0d x];refine⟨h,?_⟩;obtain⟨hx16,hxi⟩:=hc6 x (zf hx);have hcl:∀y∈s.things,y.cells.length<=16:=fun y hy=>(hc6 y hy).1;refine C8 (X:=Nat) (fun k=>⟨[(2,true,.ptr (E.n0+1) 0 0),(3,true,.ptr (E.n0+2) 0 0),(6,true,.ptr (E.n0+4) 0 0),(14,true,.sl (s.things.map M5)),(15,true,.int .i64 s.things.length),(16,true,.int .i64 i),(26,true,.sl (x.cells.map t8)),(27,true,.int .i64 x.cells.length),(28,true,.int .i64 k)],
    (E.n0+1,some ⟨[.agg [.nils,.nils]],.agg [.nils,.nils],false,false⟩)::(E.n0+2,some ⟨[.agg [.sl (s.types.map H6),.bsl (E.n0+3) 0 i]],.agg [.nils,.nils],false,false⟩)::(E.n0+3,some ⟨L6 (E.n0+16) s.things i,zT,false,false⟩) ::
    (E.n0+4,some ⟨[.agg [.int .i64 x.type,.int .i64 x.id,.bsl (E.n0+5) 0 k]],.agg [.int .i64 0,.int .i64 0,.nils],false,false⟩)::(E.n0+5,some ⟨P4 (E.n0+16) i x.cells k,zC,false,false⟩)::(Z8 (E.n0+16) i x.cells k++I8 (E.n0+16) s.things i),1024⟩) (fun k=>k<=x.cells.length) (fun k=>x.cells.length - k) 0 ?_ (by omega) ?_
   ·refine H0.trans (H0.voidBox (E.n0+11264) (by simp; rfl) rfl (.agg [.int .i64 x.type,.int .i64 x.id,.nils] [.int .i64 x.type,.int .i64 x.id,.bsl (E.n0+17408) 0 0] rfl (fun m x y h1 h2=>?_)) zC) ?_
    ·match m,h1,h2 with
     | 0,h1,h2=>simp at h1 h2; exact .inl (h1.symm.trans h2)
     | 1,h1,h2=>simp at h1 h2; exact .inl (h1.symm.trans h2)
     | 2,h1,h2=>simp at h1 h2; exact .inr ⟨h1.symm,h2.symm⟩
     | m+3,h1,h2=>simp at h1
    have hrn:I0 [(E.n0+4,E.n0+11264),(E.n0+5,E.n0+17408)]:=(by simp[Z8,P4]);refine H0.subK [(E.n0+4,E.n0+11264),(E.n0+5,E.n0+17408)] hrn ?_ ?_ ?_ ?_ ?_<;>(try simp[Z8,P4])
    ·have hR:∀z,(E.n0+16<=z/\z<E.n0+1016)->(L9 (E.n0+1024) [(E.n0+4,E.n0+11264),(E.n0+5,E.n0+17408)] hrn).ρ z=some z:=fun z ⟨h1,h2⟩=>by
      have z1:z≠E.n0+4:=(by omega);have z2:z≠E.n0+5:=(by omega);have z3:z≠E.n0+11264:=(by omega);have z4:z≠E.n0+17408:=(by omega);exact A67 (by simp[Y3,z1,z2]) (by simp[M6,z3,z4]) (by omega)
     have hrest:=M7 (t:=E.n0+16) (S:=fun z=>E.n0+16<=z/\z<E.n0+1016) hcl i (by omega) (fun j hj=>⟨by omega,by omega⟩) fun j m hj hm=>⟨by omega,by omega⟩;refine⟨c7 hR (X6 fun m hm=>⟨by omega,by omega⟩),hrest.sub hR fun y b hm=>?_⟩;have hk:=hrest.keys _ hm;simp only at hk;repeat rw[A0q (by simp only; omega)]
     exact w7 hrest.nd hm
    ·have hrest:=M7 (t:=E.n0+16) (S:=fun z=>E.n0+16<=z/\z<E.n0+1016) hcl i (by omega) (fun j hj=>⟨by omega,by omega⟩) fun j m hj hm=>⟨by omega,by omega⟩;exact j2 fun q hq=>by have:=hrest.keys q hq; omega
   ·rintro k hk q hq;refine A6 10 ?_;simp;refine⟨fun h=>?_,fun h=>?_⟩
    ·obtain⟨c,hcx,hcd⟩:=B6 h;have hi2:IntKind.i64.wrap ((k:Int)+1)=((k+1:Nat):Int):=wrap64 (by omega);have hids:=hxi c (zf hcx);refine A6 4000 ?_;simp[hcx,A6C c];refine⟨h,?_⟩;refine C6 hP rfl (A7l c.ids _ (by omega)) (by simp) (by simp<;>rfl) ?_;refine A6 4 ?_;simp;have hlenC:=A5M (E.n0+16) i x.cells k (by omega);have hcosS:P4 (E.n0+16) i x.cells (k+1)=P4 (E.n0+16) i x.cells k++[eCo (E.n0+16) i k c]:=(by rw[P4,hcx]);have hidsS:Z8 (E.n0+16) i x.cells (k+1)=(E.n0+16+16+16*i+k,some (iBx c))::Z8 (E.n0+16) i x.cells k:=(by rw[Z8,hcx]);refine A8P (by simp<;>rfl) (by simp) (by simp) (by simp<;>rfl) ?_;refine A6 4000 ?_;simp[hlenC,zC];obtain⟨dN,hdN⟩:∃d,d=E.n0+16+16+16*i+k:=⟨_,rfl⟩;rw[←hdN] at hidsS;have heCo:eCo (E.n0+16) i k c = .agg [.int .i64 c.n,.str c.text,.bsl dN 0 c.ids.length]:=(by rw[hdN]; rfl);have dn1:∀a,a<16->(E.n0+a=dN)=False:=fun a ha=>by simp; omega
     have dn2:∀a,a<16->(dN=E.n0+a)=False:=fun a ha=>by simp; omega
     have dn3:∀a,1024<=a->(E.n0+a=dN)=False:=fun a ha=>by simp; omega
     have dn4:∀a,1024<=a->(dN=E.n0+a)=False:=fun a ha=>by simp; omega
     have dn5:E.n0<=dN/\dN<E.n0+1024:=(by omega);have hA:U2 (fun z=>(E.n0+16<=z/\z<E.n0+1016)/\z≠dN) (Z8 (E.n0+16) i x.cells k++I8 (E.n0+16) s.things i):=(A1K _ fun m hm=>⟨⟨by omega,by omega⟩,by omega⟩).append (M7 hcl i (by omega) (fun j hj=>⟨⟨by omega,by omega⟩,by omega⟩) fun j m hj hm=>⟨⟨by omega,by omega⟩,by omega⟩) fun u hu u' hu' e=>by
       obtain⟨y,b⟩:=u;obtain⟨y',b'⟩:=u';simp only at e;subst e;obtain⟨m,c,h1,_,h2,_⟩:=T5 hu;rcases d0 hcl hu' with⟨j,h3,h4⟩|⟨j,m',h3,h4,h5⟩<;>omega
     refine⟨⟨by omega,by omega⟩,hq _ (k+1) (by omega) (by omega) ?_⟩;have hrn:I0 [(E.n0+5,E.n0+17408),(dN,E.n0+14336)]:=(by simp[hi2,hcosS,heCo,hidsS,iBx,dn1,dn2,dn3,dn4,dn5]);refine H0.subK [(E.n0+5,E.n0+17408),(dN,E.n0+14336)] hrn ?_ ?_ ?_ ?_ ?_<;>(try simp[hi2,hcosS,heCo,hidsS,iBx,dn1,dn2,dn3,dn4,dn5])
     ·have hR:∀z,((E.n0+16<=z/\z<E.n0+1016)/\z≠dN)->(L9 (E.n0+1024) [(E.n0+5,E.n0+17408),(dN,E.n0+14336)] hrn).ρ z=some z:=fun z ⟨⟨h1,h2⟩,hz⟩=>by
       have z2:z≠E.n0+5:=(by omega);have z3:z≠E.n0+14336:=(by omega);have z4:z≠E.n0+17408:=(by omega);exact A67 (by simp[Y3,hz,z2]) (by simp[M6,z3,z4]) (by omega)
      refine⟨c7 hR (X6 fun m hm=>⟨⟨by omega,by omega⟩,by omega⟩),⟨S8 (c7 hR (X5 fun m hm=>⟨⟨by omega,by omega⟩,by omega⟩)) (by simp[dn1,dn2,dn3,dn4]),by simp[zC]⟩,hA.sub hR fun y b hm=>?_⟩;have hk:=hA.keys _ hm;simp only at hk;repeat rw[A0q (by simp only; omega)]
      exact w7 hA.nd hm
     ·exact j2 fun q hq=>by have:=hA.keys q hq; omega
    ·obtain rfl:k=x.cells.length:=by omega
     refine A6 18 ?_;simp;have hlenT:=A5N (E.n0+16) s.things i (by omega);refine A8P (by simp<;>rfl) (by simp) (by simp) (by simp<;>rfl) ?_;refine A6 4000 ?_;simp[hlenT,zT];obtain⟨cN,hcN⟩:∃d,d=E.n0+16+1+i:=⟨_,rfl⟩;have htosS:L6 (E.n0+16) s.things (i+1)=L6 (E.n0+16) s.things i++[.agg [.int .i64 x.type,.int .i64 x.id,.bsl cN 0 x.cells.length]]:=(by rw[L6,hx,hcN]; rfl);have hrestS:I8 (E.n0+16) s.things (i+1)=(cN,some ⟨P4 (E.n0+16) i x.cells x.cells.length,zC,false,false⟩)::(Z8 (E.n0+16) i x.cells x.cells.length++I8 (E.n0+16) s.things i):=(by rw[I8,hx,hcN]; rfl);have dn1:∀a,a<16->(E.n0+a=cN)=False:=fun a ha=>by simp; omega
     have dn2:∀a,a<16->(cN=E.n0+a)=False:=fun a ha=>by simp; omega
     have dn3:∀a,1024<=a->(E.n0+a=cN)=False:=fun a ha=>by simp; omega
     have dn4:∀a,1024<=a->(cN=E.n0+a)=False:=fun a ha=>by simp; omega
     have dn5:E.n0<=cN/\cN<E.n0+1024:=(by omega);have hA:U2 (fun z=>(E.n0+16<=z/\z<E.n0+1016)/\z≠cN) (Z8 (E.n0+16) i x.cells x.cells.length++I8 (E.n0+16) s.things i):=(A1K _ fun m hm=>⟨⟨by omega,by omega⟩,by omega⟩).append (M7 hcl i (by omega) (fun j hj=>⟨⟨by omega,by omega⟩,by omega⟩) fun j m hj hm=>⟨⟨by omega,by omega⟩,by omega⟩) fun u hu u' hu' e=>by
      obtain⟨y,b⟩:=u;obtain⟨y',b'⟩:=u';simp only at e;subst e;obtain⟨m,c,h1,_,h2,_⟩:=T5 hu;rcases d0 hcl hu' with⟨j,h3,h4⟩|⟨j,m',h3,h4,h5⟩<;>omega
     refine⟨⟨by omega,by omega⟩,hp _ (i+1) (by omega) (by omega) ?_⟩;have hrn:I0 [(E.n0+3,E.n0+6144),(cN,E.n0+5)]:=(by simp[hi1,htosS,hrestS,dn1,dn2,dn3,dn4,dn5]);refine H0.subK [(E.n0+3,E.n0+6144),(cN,E.n0+5)] hrn ?_ ?_ ?_ ?_ ?_<;>(try simp[hi1,htosS,hrestS,dn1,dn2,dn3,dn4,dn5])
     ·have hR:∀z,((E.n0+16<=z/\z<E.n0+1016)/\z≠cN)->(L9 (E.n0+1024) [(E.n0+3,E.n0+6144),(cN,E.n0+5)] hrn).ρ z=some z:=fun z ⟨⟨h1,h2⟩,hz⟩=>by
       have z2:z≠E.n0+3:=(by omega);have z3:z≠E.n0+5:=(by omega);have z4:z≠E.n0+6144:=(by omega);exact A67 (by simp[Y3,hz,z2]) (by simp[M6,z3,z4]) (by omega)
      refine⟨⟨S8 (c7 hR (X6 fun m hm=>⟨⟨by omega,by omega⟩,by omega⟩)) (by simp[dn1,dn2,dn3,dn4]),by simp[zT]⟩,c7 hR (X5 fun m hm=>⟨⟨by omega,by omega⟩,by omega⟩),hA.sub hR fun y b hm=>?_⟩;have hk:=hA.keys _ hm;simp only at hk;repeat rw[A0q (by simp only; omega)]
      exact w7 hA.nd hm
     ·exact j2 fun q hq=>by have:=hA.keys q hq; omega
  ·have h:=zq h;simp;obtain rfl:i=s.things.length:=by omega
   have hcl:∀y∈s.things,y.cells.length<=16:=fun y hy=>(hc6 y hy).1;have hrn:I0 ((id,E.n0+3)::V4 id (E.n0+16) 999):=⟨A0g fun o h1 h2=>by omega,A5Q 999⟩;have hr0:(L9 E.n0 ((id,E.n0+3)::V4 id (E.n0+16) 999) hrn).ρ id=some (E.n0+3):=by
    show z6 E.n0 ((id,E.n0+3)::V4 id (E.n0+16) 999) id=_;simp[z6,Y3]
   have hsh:A9V (L9 E.n0 ((id,E.n0+3)::V4 id (E.n0+16) 999) hrn) (E.n0+16) id:=fun o h1 h2=>by
    show z6 E.n0 ((id,E.n0+3)::V4 id (E.n0+16) 999) (id+o)=_;unfold z6;rw[Y3,zh (by omega),A5R h1 (by omega)]
   have hA:=M7 (t:=E.n0+16) (S:=fun z=>E.n0+16<=z/\z<E.n0+1016) hcl s.things.length (by omega) (fun j hj=>⟨by omega,by omega⟩) fun j m hj hm=>⟨by omega,by omega⟩;have hA':=M7 (t:=id) (S:=fun z=>id+1<=z/\z<id+1000) hcl s.things.length (by omega) (fun j hj=>⟨by omega,by omega⟩) fun j m hj hm=>⟨by omega,by omega⟩;rw[hR];refine H2 (by simp<;>rfl) _ hrn ⟨?_,?_,?_,?_,?_,?_⟩
   ·refine .agg _ _ (.cons _ _ _ _ (U7 rfl (by simp)) (.cons _ _ _ _ (.bsl _ _ _ _ hr0) .nil))
   ·refine A0J.of fun y _ b' hb'=>?_;rcases A5O hb' with hm|hm
    ·rcases zi.1 hm with e|hm
     ·injection e with e1 e2
      injection e2 with e2
      subst e1 e2;exact⟨_,⟨L6 (E.n0+16) s.things s.things.length,zT,false,false⟩,hr0,by simp,⟨A2I hsh _ (by omega),rfl,rfl,rfl⟩⟩
     ·obtain⟨o,b0,q1,q2,rfl,q4,q5⟩:=A2J hcl hsh (by omega) hm;refine⟨_,b0,hsh o q1 q2,?_,q5⟩;repeat rw[A0q (by simp only; omega)]
      exact w7 hA.nd q4
    ·simp[C4,Am.bk] at hm
   ·refine⟨.inl (by omega),.inl (by omega),.inl (by omega),.inl (by omega),j2 fun q hq=>by have:=hA.keys q hq; omega⟩
   ·exact A5P fun q hq=>.inr (by
     rcases zi.1 hq with rfl|hq
     ·exact⟨yg _,by simp only; omega⟩
     ·have:=hA'.keys q hq; omega)
   ·exact A7n fun q hq=>by
     rcases zi.1 hq with rfl|hq
     ·exact⟨yg _,by simp only; omega⟩
     ·obtain⟨o,q1,q2,rfl⟩:=A1L hq;exact⟨by simp only; omega,by simp only; omega⟩
   ·exact A5S fun q hq=>by
     rcases zi.1 hq with rfl|hq
     ·simp only; omega
     ·obtain⟨o,q1,q2,rfl⟩:=A1L hq;simp only; omega
theorem A7p(n:Int)(id:Nat):A2 Tryz.prog 335 [.int .i64 n] [] id (.bool false) []:=by
 refine w335.e.1 fun E hP hR hl hid=>?_;simp[w335];exact yP hR
theorem A2K(n:Int)(id:Nat):A2 Tryz.prog 317 [.int .i64 n] [] id (.bool false) []:=by
 refine w317.e.1 fun E hP hR hl hid=>?_;simp[w317];exact yP hR
theorem B3u(a b:Int)(id:Nat):A2 Tryz.prog 316 [.int .i64 a,.int .i64 b] [] id (.bool (decide (a<b))) []:=by
 refine w316.e.1 fun E hP hR hl hid=>?_;simp[w316];(refine yH rfl (A7p a _) ?_; simp);(refine yG rfl (A7p b _) ?_; simp);exact yP hR
def fLt(l:List Int)(x:Int)(k:Nat):Int:=match l[k]? with
 | some y=>y - x
 | none=>0
def H7(l:List Int)(x:Int):Nat:=bs (fLt l x) 0 l.length
def T6(l:List Int)(x:Int):Bool:=decide (H7 l x<l.length)&&decide (fLt l x (H7 l x)=0)
theorem B0V(l:List Int)(x:Int)(id:Nat)(hl:l.length<1000000):A2 Tryz.prog 299 [.sl (l.map eI),.int .i64 x] [] id (.tup [.int .i64 (H7 l x),.bool (T6 l x)]) []:=by
 refine w299.e.1 fun E hP hR hl hid=>?_;simp[w299];refine C8 (X:=Nat×Nat) (fun q=>⟨[(0,true,.sl (l.map eI)),(1,true,.int .i64 x),(6,true,.int .i64 l.length),(7,true,.int .i64 q.1),(8,true,.int .i64 q.2)],[],0⟩) (fun q=>q.1<=q.2/\q.2<=l.length/\bs (fLt l x) q.1 q.2=H7 l x) (fun q=>q.2 - q.1) (0,l.length) ?_ ⟨by simp,by simp,rfl⟩ ?_
 ·refine yV [] (by simp) fun hrn=>⟨?_,?_,?_,?_,?_⟩<;>(try simp)
 ·rintro⟨i,j⟩ ⟨hij,hj,hf⟩ p hp;simp only at hij hj hf;refine A6 4000 ?_;simp;refine C9 (fun h=>?_) (fun h=>?_)
  ·have h:=zp h;have h':i<j:=(by omega);have hk:(i+j) / 2<l.length:=(by omega);obtain⟨t,ht⟩:∃t,l[(i+j) / 2]?=some t:=⟨_,zd hk⟩;have hh:=B1y (i:=i) (j:=j) (by omega) (by omega);have h64:(1:Int)<=↑IntKind.u64.bits:=(by decide);generalize hm:(i+j) / 2=m at hh hk ht;simp[hh,ht,B4U];refine⟨h64,hk,?_⟩;(refine yH rfl (B3u _ _ _) ?_; simp);have hfo:fLt l x m=t - x:=(by simp only[fLt,ht]);rw[bs,dif_pos h',hm,hfo] at hf;refine C9 (fun h1=>?_) (fun h1=>?_)
   ·have hm1:IntKind.i64.wrap ((m:Int)+1)=((m+1:Nat):Int):=wrap64 (by omega);simp at h1;rw[zk (by omega)] at hf;simp;refine hp _ (m+1,j) ⟨by simp only; omega,hj,hf⟩ (by simp only; omega) ?_;refine yV [] (by simp[hm1]) fun hrn=>⟨?_,?_,?_,?_,?_⟩<;>(try simp[hm1])
   ·simp at h1;rw[zh (by omega)] at hf;simp;refine hp _ (i,m) ⟨by simp only; omega,by simp only; omega,hf⟩ (by simp only; omega) ?_;refine yV [] (by simp) fun hrn=>⟨?_,?_,?_,?_,?_⟩<;>(try simp)
  ·have h:=zq h;have he:i=H7 l x:=(by rw[←hf,bs,dif_neg (by omega)]);simp;by_cases hi:i<l.length
   ·obtain⟨t,ht⟩:∃t,l[i]?=some t:=⟨_,zd hi⟩;have hfo:fLt l x i=t - x:=(by simp only[fLt,ht]);have hg:l[i]=t:=(by rw[zd hi] at ht; injection ht);simp[hi,hg,B4U];(refine yG rfl (A2K _ _) ?_; simp);(refine yG rfl (A2K _ _) ?_; simp);exact yP hR (h1:=by simp; rw[←he]; refine⟨rfl,?_⟩; unfold T6; rw[←he,hfo,xp]; simp[hi]; omega)
   ·have ht:l[i]?=none:=xx (by omega);simp[hi,ht];refine o5 (.int .i64 0) (by simp) (fun hg=>by simp at hg) (fun _=>?_);refine A6 4000 ?_;simp;(refine yG rfl (A2K _ _) ?_; simp);exact yP hR (h1:=by simp; rw[←he]; exact⟨rfl,by unfold T6; rw[←he]; simp[hi]⟩)
theorem B2H(l:List Int)(y:Int)(id:Nat)(hl8:l.length<9223372036854775807):A2 Tryz.prog 224 [.sl (l.map eI),.int .i64 y] [] id (.int .i64 (B7 (fun x=>y==x) l 0)) []:=by
 refine w224.e.1 fun E hP hR hl hid=>?_;simp[w224];refine C8 (X:=Nat) (fun i=>⟨[(0,true,.sl (l.map eI)),(1,true,.int .i64 y),(7,true,.int .i64 l.length),(8,true,.int .i64 i)],[],0⟩) (fun i=>i<=l.length/\B7 (fun x=>y==x) (l.drop i) i=B7 (fun x=>y==x) l 0) (fun i=>l.length - i) 0 ?_ ⟨by omega,rfl⟩ ?_
 ·refine yV [] (by simp) fun hrn=>⟨?_,?_,?_,?_,?_⟩<;>(try simp)
 ·rintro i ⟨hi,hf⟩ p hp;refine A6 4000 ?_;simp;refine C9 (fun h=>?_) (fun h=>?_)
  ·have h:=zp h;obtain⟨x,hx,hd⟩:=B6 h;rw[hd] at hf;simp only[B7] at hf;have hi1:IntKind.i64.wrap ((i:Int)+1)=((i+1:Nat):Int):=wrap64 (by omega);simp[hx,eI];refine⟨h,?_⟩;refine C9 (fun h1=>?_) (fun h1=>?_)<;>simp
   ·rw[zk (by simpa using h1)] at hf;exact yP hR (h1:=by simp; exact hf)
   ·rw[zh (by simpa using h1)] at hf;refine hp _ (i+1) ⟨h,hf⟩ (by omega) ?_;refine yV [] (by simp[hi1]) fun hrn=>⟨?_,?_,?_,?_,?_⟩<;>(try simp[hi1])
  ·have h:=zq h;simp;rw[zt (by omega)] at hf;exact yP hR (h1:=by simp; exact hf)
def B3v(l:List Int)(y:Int):Bool:=l.any fun x=>y==x
theorem B0W(l:List Int)(y:Int)(id:Nat)(hl8:l.length<9223372036854775807):A2 Tryz.prog 159 [.sl (l.map eI),.int .i64 y] [] id (.bool (B3v l y)) []:=by
 refine w159.e.1 fun E hP hR hl hid=>?_;simp[w159];(refine yH rfl (B2H l y _ hl8) ?_; simp);exact yP hR (h1:=by simp; exact S0 _ _ _)
def eD(l:List Ty)(th:AV)(e:Ev)(i:Int):AV:=.agg [.sl (l.map H6),th,.int .i64 e.kind,.int .i64 e.type,.int .i64 e.id,.int .i64 e.field,.int .i64 e.n,.str e.text,.int .i64 i]
def P8(l:List Ty)(e:Ev)(f:Fd)(c:Cl):Bool:=(!O5 f.kind||!(A8 l f.of==e.type))||!B3v c.ids e.id
theorem B0X(l:List Ty)(ts:List AV)(e:Ev)(i:Int)(f:Fd)(c:Cl)(j:Nat)(id:Nat)(h5:l.length<=1000)(hc:c.ids.length<=1000)(hp:E7 ts=true):
  A2 Tryz.prog 296 [M4 f,.cptr [.int .i64 c.n,.str c.text,.sl (c.ids.map eI)],.ptr j 0 0] [(j,⟨[.cptr (eD l (.sl ts) e i).cells],.cptr (eD l (.sl ts) e i).cells,false,false⟩)] id (.bool (P8 l e f c)) []:=by
 have hrt:∀R S,K2 R S ts ts:=fun R S=>F7 rfl hp;have hnt:∀S,D9 S ts:=fun S=>A5 _ hp;unfold M4 eD;refine w296.e.1 fun E hP hR hl hid=>?_;simp[w296];have hj:=hl (j,_) (zb ..);simp only at hj;have j1:=lf hj;try simp[j1]
 (refine C6 hP rfl (A3y _ _) (by simp[j1]) (by simp[j1]<;>rfl) ?_; refine A6 4000 ?_; simp[j1]);(refine K3 hP (by simp[j1,V1]) rfl (fun hc=>⟨T2 l f.of _ (by omega),by revert hc; simp[j1,V1]; try grind,by simp[j1,V1]⟩) ?_; refine A6 4000 ?_; simp[j1,V1]);(refine K3 hP (by simp[j1]) rfl (fun hc=>⟨B0W c.ids e.id _ (by omega),by revert hc; simp[j1]; try grind,by simp[j1]⟩) ?_; refine A6 4000 ?_; simp[j1]);refine yE hR [] (by simp[j1,hrt,hnt,P8,B2 hid]) fun hrn=>⟨?_,?_,?_,?_,?_,?_⟩<;>(try simp[j1,hrt,hnt,P8,B2 hid])
 ·rfl
 ·exact A5 _ (by simp[hp])
theorem B2I(s:F1)(e:Ev)(i:Int)(id:Nat)(h5:s.types.length<=1000)(h12:s.things.length<=1000000)
  (hok:∀t∈s.things,0<=t.type/\t.type.toNat<s.types.length/\t.cells.length=(C2 s.types t.type).length/\t.cells.length<=1000000/\∀c∈t.cells,c.ids.length<=6) :
  A2 Tryz.prog 261 [.cptr (eD s.types (.sl (s.things.map M5)) e i).cells] [] id (.bool (!M2 (P8 s.types e) s.types s.things)) []:=by
 have hE:=fun j id=>A9M s 296 j (.cptr (eD s.types (.sl (s.things.map M5)) e i).cells) (P8 s.types e) (by simp[eD,AV.cells]) (fun f c id h6=>B0X s.types (s.things.map M5) e i f c j id h5 (by omega) (by simp)) hok h12 id;unfold eD B4 at *;refine w261.e.1 fun E hP hR hl hid=>?_;simp[w261];(refine yH rfl (hE E.n0 _) ?_; simp);exact yP hR
structure D2 where
 t:Tg
 c:Nat
 is:List (Option Nat)
def I6:Option Nat->Nat->AV
 | none,_=>.nils
 | some i,n=>.bsl i 0 n
def H4(c:Cl)(i:Option Nat):AV:=.agg [.int .i64 c.n,.str c.text,I6 i c.ids.length]
def N8(o:D2):AV:=.agg [.int .i64 o.t.type,.int .i64 o.t.id,.bsl o.c 0 o.t.cells.length]
def idB:Cl->Option Nat->List (Nat×Bx)
 | c,some i=>[(i,iBx c)]
 | _,none=>[]
def cBn(o:D2):Bx:=⟨o.t.cells.zipWith H4 o.is,zC,false,false⟩
def X7:List Cl->List (Option Nat)->List (Nat×Bx)
 | c::cs,i::is=>idB c i++X7 cs is
 | _,_=>[]
def D2.bxs(o:D2):List (Nat×Bx):=(o.c,cBn o)::X7 o.t.cells o.is
def E8(S:List D2):List (Nat×Bx):=S.flatMap D2.bxs
def J9(S:List D2):Bx:=⟨S.map N8,zT,false,false⟩
def A3(l:List Ty)(S:List D2):F1:=⟨l,S.map D2.t⟩
theorem A4Y(S:List D2)(T:Nat)(kind tid:Int)(id:Nat)(hl8:S.length<1000000):A2 Tryz.prog 132 [.bsl T 0 S.length,.agg [.int .i64 kind,.int .i64 tid,.nils],.fn 67 []] [(T,J9 S)] id (.tup [.int .i64 (B3 (S.map D2.t) kind tid),.bool (C3 (S.map D2.t) kind tid)]) []:=by
 unfold J9;refine w132.b.1 fun E hP hR hl hid hB hu=>?_;simp[w132];have hT:=hl (T,_) (zb ..);simp only at hT;have T1:=lf hT;have hTn:∀x∈S.map N8,A4 E.G0.used x:=A9 hB (zb ..);try simp[T1]
 refine C8 (X:=Nat×Nat) (fun q=>⟨[(0,true,.bsl T 0 S.length),(2,true,.fn 67 []),(4,true,.ptr E.n0 0 0),(8,true,.int .i64 S.length),(9,true,.int .i64 q.1),(10,true,.int .i64 q.2)],[(T,some ⟨S.map N8,zT,false,false⟩),(E.n0,some ⟨[.agg [.int .i64 kind,.int .i64 tid,.nils]],.agg [.int .i64 0,.int .i64 0,.nils],false,false⟩)],1⟩) (fun q=>q.1<=q.2/\q.2<=S.length/\bs (F4 (S.map D2.t) kind tid) q.1 q.2=B3 (S.map D2.t) kind tid) (fun q=>q.2 - q.1) (0,S.length) ?_ ⟨by simp,by simp,by unfold B3; rw[xd]⟩ ?_
 ·refine yV [(E.n0,E.n0)] (by simp[T1]) fun hrn=>⟨?_,?_,?_,?_,?_⟩<;>(try simp[T1]);all_goals exact yO hu hTn
 ·rintro⟨i,j⟩ ⟨hij,hj,hf⟩ p hp;simp only at hij hj hf;refine A6 4000 ?_;simp;refine C9 (fun h=>?_) (fun h=>?_)
  ·have h:=zp h;have h':i<j:=(by omega);have hk:(i+j) / 2<S.length:=(by omega);obtain⟨o,ho⟩:∃o,S[(i+j) / 2]?=some o:=⟨_,zd hk⟩;have hh:=B1y (i:=i) (j:=j) (by omega) (by omega);have h64:(1:Int)<=↑IntKind.u64.bits:=(by decide);generalize hm:(i+j) / 2=m at hh hk ho;simp[hh,ho,N8,T1];refine⟨h64,⟨hk,rfl⟩,hk,?_⟩;refine P2 hP rfl rfl (A0e o.t.type o.t.id kind tid (.bsl o.c 0 o.t.cells.length) .nils _) (by simp) (by simp<;>rfl) ?_;refine A6 4000 ?_;have hfo:F4 (S.map D2.t) kind tid m=S5 o.t.type o.t.id kind tid:=(by simp[F4,ho]);rw[bs,dif_pos h',hm,hfo] at hf;simp;refine C9 (fun h1=>?_) (fun h1=>?_)
   ·have hm1:IntKind.i64.wrap ((m:Int)+1)=((m+1:Nat):Int):=wrap64 (by omega);simp at h1;rw[zk h1] at hf;simp;refine hp _ (m+1,j) ⟨by simp only; omega,hj,hf⟩ (by simp only; omega) ?_;refine yV [(E.n0,E.n0)] (by simp[hm1,T1]) fun hrn=>⟨?_,?_,?_,?_,?_⟩<;>(try simp[hm1,T1]);all_goals exact yO hu hTn
   ·simp at h1;rw[zh (by omega)] at hf;simp;refine hp _ (i,m) ⟨by simp only; omega,by simp only; omega,hf⟩ (by simp only; omega) ?_;refine yV [(E.n0,E.n0)] (by simp[T1]) fun hrn=>⟨?_,?_,?_,?_,?_⟩<;>(try simp[T1]);all_goals exact yO hu hTn
  ·have h:=zq h;have he:i=B3 (S.map D2.t) kind tid:=(by rw[←hf,bs,dif_neg (by omega)]);simp;by_cases hi:i<S.length
   ·obtain⟨o,ho⟩:∃o,S[i]?=some o:=⟨_,zd hi⟩;have hfo:F4 (S.map D2.t) kind tid i=S5 o.t.type o.t.id kind tid:=(by simp[F4,ho]);have hg:S[i]=o:=(by rw[zd hi] at ho; injection ho);simp[hi,hg,N8,T1];refine⟨rfl,?_⟩;refine o5 (.int .i64 0) (by simp) (fun _=>?_) (fun hg=>by simp at hg);refine P2 hP rfl rfl (A0e o.t.type o.t.id kind tid (.bsl o.c 0 o.t.cells.length) .nils _) (by simp) (by simp<;>rfl) ?_;refine A6 4000 ?_;simp;have hg2:B3 (S.map D2.t) kind tid=i:=he.symm;have hg3:C3 (S.map D2.t) kind tid=decide (S5 o.t.type o.t.id kind tid=0):=(by unfold C3; rw[←he,hfo,xp]; simp[hi]);rw[hg2,hg3] at hR;refine yE hR [] (by simp[T1,B2 hid]) fun hrn=>⟨?_,?_,?_,?_,?_,?_⟩<;>(try simp[T1,B2 hid])
    ·rw[xp]; simp
    ·exact yO hu hTn
   ·have ht:S[i]?=none:=xx (by omega);simp[hi,ht,T1];refine o5 (.int .i64 0) (by simp) (fun hg=>by simp at hg) (fun _=>?_);refine A6 4000 ?_;simp;have hg2:B3 (S.map D2.t) kind tid=i:=he.symm;have hg3:C3 (S.map D2.t) kind tid=false:=(by unfold C3; rw[←he]; simp[hi]);rw[hg2,hg3] at hR;refine yE hR [] (by simp[T1,B2 hid]) fun hrn=>⟨?_,?_,?_,?_,?_,?_⟩<;>(try simp[T1,B2 hid]);all_goals exact yO hu hTn
theorem M3(l:List Ty)(S:List D2)(T:Nat)(kind tid:Int)(id:Nat)(hl8:S.length<1000000):A2 Tryz.prog 71 [.agg [.sl (l.map H6),.bsl T 0 S.length],.int .i64 kind,.int .i64 tid] [(T,J9 S)] id (.tup [.int .i64 (B3 (S.map D2.t) kind tid),.bool (C3 (S.map D2.t) kind tid)]) []:=by
 have hX:=fun id=>A4Y S T kind tid id hl8;unfold J9 at *;refine w71.b.1 fun E hP hR hl hid hB hu=>?_;simp[w71];have hT:=hl (T,_) (zb ..);simp only at hT;have T1:=lf hT;have hTn:∀x∈S.map N8,A4 E.G0.used x:=A9 hB (zb ..);(refine yC rfl (hX _) ?_; simp[T1]);refine yE hR [] (by simp[T1,B2 hid]) fun hrn=>⟨?_,?_,?_,?_,?_,?_⟩<;>(try simp[T1,B2 hid]);all_goals exact yO hu hTn
def E3(l:List Value)(o:Nat)(cs:List Value):List Value:=l.take o++cs++l.drop (o+cs.length)
theorem I2{l:List Value}{o:Nat}{cs:List Value}(h:o+cs.length<=l.length):(E3 l o cs).length=l.length:=by
 unfold E3;simp only[yy,zu,xc];omega
theorem L3{P:Program}(w:World)(dT sT ty elem:TypeId)(b o n dLen dCap sLen sCap size:Nat)(a:Addr)(cs:List Value)(cur:Array Value)(el:TypeId)(hu:P.underlying dT=some (.slice elem))(hu2:P.underlying sT=some (.slice elem))(hs:(P.info? elem).map (·.size)=some size)
  (hn:Nat.min sLen dLen=n) (hcs:cs.length=n*size) (hsrc:∀j v,cs[j]?=some v->w.cell? (a.add j)=some v) (hg:w.heap[b]?=some (.cells cur el (0,0))) (hfit:o+cs.length<=cur.size) (h1:∀v∈cs,v.oneCell'=true) :
  (Builtin.copy_ #[dT,sT] ty #[.slice (some ⟨b,o,none⟩) dLen dCap,.slice (some a) sLen sCap]).run P w = .ok (goInt n) (w.setRow b (E3 cur.toList o cs).toArray):=by
 have hl:=run_firstCells_some (P:=P) w size n a sLen sCap cs hcs hsrc;have hst:=run_storeCells_at P b o el cs 0 cur w hg (by simpa using hfit) h1;obtain⟨i,hi1,hi2⟩:=zj.1 hs;simp only[wh] at hst;simp[Builtin.copy_,run_underlying hu,Builtin.lenOf,sizeOf,typeInfo,hi1,hi2,hn,hl,hst,E3]
theorem A6N(b n c i vb vc:Nat)(cur:Array Value)(el:TypeId)(vs:List Value)(w:World)(hi:i<n)(hroom:n+1<=c)(hc63:c<=9223372036854775807)(hvb:vb≠b)(hvl:vs.length=1)
  (hg:w.heap[b]?=some (.cells cur el (0,0))) (hcz:cur.size=c) (h1c:∀v∈cur.toList.take (n),v.oneCell'=true) (hvs:∀j v,vs[j]?=some v->w.cell? ⟨vb,j,none⟩=some v) (h1v:∀v∈vs,v.oneCell'=true)
  (tA tB:TypeId) (kA kB:Nat) (hsa:w.shape? vb=some (tA,kA)) (hsb:w.shape? b=some (tB,kB)) (hkB:kB≠0) (hfa:w.frozen? ⟨vb,0,none⟩=false) (hfe:w.frozen? ⟨vb,kA,none⟩=false) :
  Calls Tryz.prog 315 #[.slice (some ⟨b,0,none⟩) n c,.int .i64 i,.slice (some ⟨vb,0,none⟩) 1 vc] w fun e w' =>
   e = .returned (.slice (some ⟨b,0,none⟩) (n+1) c)/\∃q,w'=((w.drewN q).setRow b (E3 cur.toList (i+1) ((cur.toList.take (n)).drop (i))).toArray).setRow b (E3 (E3 cur.toList (i+1) ((cur.toList.take (n)).drop (i))) (i) vs).toArray:=by
 have hz2:¬((i:Int)=(n:Int)):=by omega
 have hsz:(Tryz.prog.info? 3).map (·.size)=some 1:=by kernel_rfl
 have hw1:IntKind.i64.wrap ((i:Int)+1)=(i:Int)+1:=by rw[IntKind.wrap_i64]; omega
 have hb1:(0:Int)<=(i:Int)+1:=by omega
 have htn:((i:Int)+1).toNat=i+1:=by omega
 have hb2:¬(c=i+1):=by omega
 have hb3:(i:Int)<=(n:Int)+1:=by omega
 have hb4:¬(c=i):=by omega
 have hin:i<=n:=by omega
 have mixed:Tryz.prog.follows .mixedOrders=true:=by kernel_rfl
 have hmn1:Nat.min (n+1 - i) (n - i)=n - i:=by simp only[uf]; split<;>omega
 have hmn2:Nat.min 1 (n+1 - i)=1:=by simp only[uf]; split<;>omega
 have hov:∀lb cb,(callFunc 333 #[.slice (some ⟨vb,0,none⟩) 1 vc,.slice (some ⟨b,i+1,none⟩) lb cb]).run Tryz.prog w = .ok (.value (.bool false)) w:=fun lb cb=>by
  rw[run_callFunc_extern Tryz.func333 (by kernel_rfl) (by kernel_rfl) (by kernel_rfl) (e:=Extern.SlicesOverlaps.overlaps #[106,106] #[4]) (by kernel_rfl),
   Lib.run_overlaps_apart w 106 4 3 Tryz.underlying106 1 (fun w=>by kernel_rfl) ⟨vb,0,none⟩ ⟨b,i+1,none⟩ 1 vc lb cb hvb tA tB kA kB hsa hsb hkB hfa hfe]
  rfl
 obtain⟨cs1,hcs1⟩:∃cs1,cs1=(cur.toList.take (n)).drop (i):=⟨_,rfl⟩;have hl1:cs1.length=(n - i)*1:=by rw[hcs1,xc,zu,yp]; omega
 have hget1:∀j v,cs1[j]?=some v->cur[i+j]?=some v:=fun j v hj=>by
  rw[hcs1,zw,zr] at hj;split at hj
  ·simpa using hj
  ·cases hj
 have hcp1:∀ty dc sc,(Builtin.copy_ #[106,106] ty #[.slice (some ⟨b,i+1,none⟩) (n - i) dc,.slice (some ⟨b,i,none⟩) (n+1 - i) sc]).run Tryz.prog w.drew = .ok (goInt ((n - i:Nat):Int)) (w.drew.setRow b (E3 cur.toList (i+1) cs1).toArray):=fun ty dc sc =>
  L3 w.drew _ _ ty 3 b (i+1) (n - i) (n - i) dc (n+1 - i) sc 1 ⟨b,i,none⟩ cs1 cur el Tryz.underlying106 Tryz.underlying106 hsz hmn1 hl1
   (fun j v hj=>by rw[Addr.add_lit]; exact (C1 (w:=w.drew) hg).trans (hget1 j v hj)) hg (by omega) (fun v hv=>h1c v (by rw[hcs1] at hv; exact xh hv))
 obtain⟨L1,hL1⟩:∃L1,L1=E3 cur.toList (i+1) cs1:=⟨_,rfl⟩;rw[←hL1] at hcp1;obtain⟨W1,hW1⟩:∃W1,W1=w.drew.setRow b L1.toArray:=⟨_,rfl⟩;have hg1:W1.heap[b]?=some (.cells L1.toArray el (0,0)):=by rw[hW1]; exact setRow_heap w.drew b cur _ el (0,0) hg
 have hsz1:L1.length=c:=by rw[hL1,I2 (by simp; omega)]; simpa using hcz
 have hcp2:∀ty dc,(Builtin.copy_ #[106,106] ty #[.slice (some ⟨b,i,none⟩) (n+1 - i) dc,.slice (some ⟨vb,0,none⟩) 1 vc]).run Tryz.prog W1 = .ok (goInt 1) (W1.setRow b (E3 L1 (i) vs).toArray):=fun ty dc =>
  L3 W1 _ _ ty 3 b (i) 1 (n+1 - i) dc 1 vc 1 ⟨vb,0,none⟩ vs _ el Tryz.underlying106 Tryz.underlying106 hsz hmn2 (by omega)
   (fun j v hj=>by
    have:=hvs j v hj;rw[Addr.add_lit,yu];rw[←this,hW1];exact World.cell?_of_block (w:=w) (setRow_other w.drew b vb _ hvb)) hg1 (by simp only[yc]; omega) h1v
 rw[←hW1] at hcp1;rw[←hcs1,←hL1];have hW:Hid (W1=w.drew.setRow b L1.toArray):=hW1;clear hW1 hL1 hcs1
 go_enter Tryz.func315,Tryz.ntmps315
 go_wp2_with (simp only[hov])
 go_region_law_o (refine step_copy_runI rfl _ _ 106 106 rfl _ _ (by simp[Act.eval,Act.put]) (by simp[Act.eval,Act.put]) (hcp1 _ _ _) ?_)
 go_wp2_with (at_builtin; refine wpList_copy_runI _ rfl _ _ 106 106 rfl _ _ rfl rfl (hcp2 _ _) ?_)
 go_ret
 exact⟨rfl,1,by rw[hW.out]; rfl⟩
theorem A49(b n c i vb vc:Nat)(cur:Array Value)(el:TypeId)(vs:List Value)(w:World)(hi:i<n)(hroom:n+1<=c)(hc63:c<=9223372036854775807)(hvb:vb≠b)(hvl:vs.length=3)
  (hg:w.heap[b]?=some (.cells cur el (0,0))) (hcz:cur.size=c*3) (h1c:∀v∈cur.toList.take (n*3),v.oneCell'=true) (hvs:∀j v,vs[j]?=some v->w.cell? ⟨vb,j,none⟩=some v) (h1v:∀v∈vs,v.oneCell'=true)
  (tA tB:TypeId) (kA kB:Nat) (hsa:w.shape? vb=some (tA,kA)) (hsb:w.shape? b=some (tB,kB)) (hkB:kB≠0) (hfa:w.frozen? ⟨vb,0,none⟩=false) (hfe:w.frozen? ⟨vb,kA,none⟩=false) :
  Calls Tryz.prog 260 #[.slice (some ⟨b,0,none⟩) n c,.int .i64 i,.slice (some ⟨vb,0,none⟩) 1 vc] w fun e w' =>
   e = .returned (.slice (some ⟨b,0,none⟩) (n+1) c)/\∃q,w'=((w.drewN q).setRow b (E3 cur.toList ((i+1)*3) ((cur.toList.take (n*3)).drop (i*3))).toArray).setRow b (E3 (E3 cur.toList ((i+1)*3) ((cur.toList.take (n*3)).drop (i*3))) (i*3) vs).toArray:=by
 have hz2:¬((i:Int)=(n:Int)):=by omega
 have hsz:(Tryz.prog.info? 66).map (·.size)=some 3:=by kernel_rfl
 have hw1:IntKind.i64.wrap ((i:Int)+1)=(i:Int)+1:=by rw[IntKind.wrap_i64]; omega
 have hb1:(0:Int)<=(i:Int)+1:=by omega
 have htn:((i:Int)+1).toNat=i+1:=by omega
 have hb2:¬(c=i+1):=by omega
 have hb3:(i:Int)<=(n:Int)+1:=by omega
 have hb4:¬(c=i):=by omega
 have hin:i<=n:=by omega
 have mixed:Tryz.prog.follows .mixedOrders=true:=by kernel_rfl
 have hmn1:Nat.min (n+1 - i) (n - i)=n - i:=by simp only[uf]; split<;>omega
 have hmn2:Nat.min 1 (n+1 - i)=1:=by simp only[uf]; split<;>omega
 have hov:∀lb cb,(callFunc 294 #[.slice (some ⟨vb,0,none⟩) 1 vc,.slice (some ⟨b,(i+1)*3,none⟩) lb cb]).run Tryz.prog w = .ok (.value (.bool false)) w:=fun lb cb=>by
  rw[run_callFunc_extern Tryz.func294 (by kernel_rfl) (by kernel_rfl) (by kernel_rfl) (e:=Extern.SlicesOverlaps.overlaps #[27,27] #[4]) (by kernel_rfl),
   Lib.run_overlaps_apart w 27 4 66 Tryz.underlying27 3 (fun w=>by kernel_rfl) ⟨vb,0,none⟩ ⟨b,(i+1)*3,none⟩ 1 vc lb cb hvb tA tB kA kB hsa hsb hkB hfa hfe]
  rfl
 obtain⟨cs1,hcs1⟩:∃cs1,cs1=(cur.toList.take (n*3)).drop (i*3):=⟨_,rfl⟩;have hl1:cs1.length=(n - i)*3:=by rw[hcs1,xc,zu,yp]; omega
 have hget1:∀j v,cs1[j]?=some v->cur[i*3+j]?=some v:=fun j v hj=>by
  rw[hcs1,zw,zr] at hj;split at hj
  ·simpa using hj
  ·cases hj
 have hcp1:∀ty dc sc,(Builtin.copy_ #[27,27] ty #[.slice (some ⟨b,(i+1)*3,none⟩) (n - i) dc,.slice (some ⟨b,i*3,none⟩) (n+1 - i) sc]).run Tryz.prog w.drew = .ok (goInt ((n - i:Nat):Int)) (w.drew.setRow b (E3 cur.toList ((i+1)*3) cs1).toArray):=fun ty dc sc =>
  L3 w.drew _ _ ty 66 b ((i+1)*3) (n - i) (n - i) dc (n+1 - i) sc 3 ⟨b,i*3,none⟩ cs1 cur el Tryz.underlying27 Tryz.underlying27 hsz hmn1 hl1
   (fun j v hj=>by rw[Addr.add_lit]; exact (C1 (w:=w.drew) hg).trans (hget1 j v hj)) hg (by omega) (fun v hv=>h1c v (by rw[hcs1] at hv; exact xh hv))
 obtain⟨L1,hL1⟩:∃L1,L1=E3 cur.toList ((i+1)*3) cs1:=⟨_,rfl⟩;rw[←hL1] at hcp1;obtain⟨W1,hW1⟩:∃W1,W1=w.drew.setRow b L1.toArray:=⟨_,rfl⟩;have hg1:W1.heap[b]?=some (.cells L1.toArray el (0,0)):=by rw[hW1]; exact setRow_heap w.drew b cur _ el (0,0) hg
 have hsz1:L1.length=c*3:=by rw[hL1,I2 (by simp; omega)]; simpa using hcz
 have hcp2:∀ty dc,(Builtin.copy_ #[27,27] ty #[.slice (some ⟨b,i*3,none⟩) (n+1 - i) dc,.slice (some ⟨vb,0,none⟩) 1 vc]).run Tryz.prog W1 = .ok (goInt 1) (W1.setRow b (E3 L1 (i*3) vs).toArray):=fun ty dc =>
  L3 W1 _ _ ty 66 b (i*3) 1 (n+1 - i) dc 1 vc 3 ⟨vb,0,none⟩ vs _ el Tryz.underlying27 Tryz.underlying27 hsz hmn2 (by omega)
   (fun j v hj=>by
    have:=hvs j v hj;rw[Addr.add_lit,yu];rw[←this,hW1];exact World.cell?_of_block (w:=w) (setRow_other w.drew b vb _ hvb)) hg1 (by simp only[yc]; omega) h1v
 rw[←hW1] at hcp1;rw[←hcs1,←hL1];have hW:Hid (W1=w.drew.setRow b L1.toArray):=hW1;clear hW1 hL1 hcs1
 go_enter Tryz.func260,Tryz.ntmps260
 go_wp2_with (simp only[hov])
 go_region_law_o (refine step_copy_runI rfl _ _ 27 27 rfl _ _ (by simp[Act.eval,Act.put]) (by simp[Act.eval,Act.put]) (hcp1 _ _ _) ?_)
 go_wp2_with (at_builtin; refine wpList_copy_runI _ rfl _ _ 27 27 rfl _ _ rfl rfl (hcp2 _ _) ?_)
 go_ret
 exact⟨rfl,1,by rw[hW.out]; rfl⟩
theorem A7q(b n c i vb vc:Nat)(cur:Array Value)(el:TypeId)(vs:List Value)(w:World)(hi:i<n)(hnc:n<=c)(hroom:c<n+1)(hbig:(n+1)*8<=140737488355328)(hvl:vs.length=1)
  (hg:w.heap[b]?=some (.cells cur el (0,0))) (hcz:n<=cur.size) (h1c:∀v∈cur.toList.take (n),v.oneCell'=true) (hvs:∀j v,vs[j]?=some v->w.cell? ⟨vb,j,none⟩=some v) (h1v:∀v∈vs,v.oneCell'=true) :
  Calls Tryz.prog 315 #[.slice (some ⟨b,0,none⟩) n c,.int .i64 i,.slice (some ⟨vb,0,none⟩) 1 vc] w fun e w' =>
   e = .returned (.slice (some ⟨w.heap.size,0,none⟩) (n+1) (grownCap w (n+1) c 3))/\∃q ROW,ROW.length=grownCap w (n+1) c 3*1/\ROW.take (i)=cur.toList.take (i) /\
    w'=(((w.drewN q).alloc (.cells ROW.toArray 3)).setRow w.heap.size (E3 ROW (i) vs).toArray).setRow w.heap.size (E3 (E3 ROW (i) vs) (i+1) ((cur.toList.take (n)).drop (i))).toArray:=by
 have u3:=run_underlying (P:=Tryz.prog) Tryz.underlying3;have uT:=run_underlying (P:=Tryz.prog) Tryz.underlying106;have mixed:Tryz.prog.follows .mixedOrders=true:=by kernel_rfl
 obtain⟨i0,hi0,hz0,hzs,hzb⟩:=info_parts (P:=Tryz.prog) (e:=3) (z:=.int .i64 0) (size:=1) (bytes:=8) (by kernel_rfl);have hz2:¬((i:Int)=(n:Int)):=by omega
 have hz3:(c:Int)<(n:Int)+1:=by omega
 have hsz:(Tryz.prog.info? 3).map (·.size)=some 1:=by rw[hi0]; simp[hzs]
 have hbw:b<w.heap.size:=(xl.1 hg).1;have hvw:vb<w.heap.size:=block_lt_of_cell (hvs 0 _ (zd (by omega)));have hkk:(n:Int)+1 - (i:Int)=((n+1 - i:Nat):Int):=by omega
 have hik:i+(n+1 - i)=n+1:=by omega
 obtain⟨cs,hcs⟩:∃cs,cs=cur.toList.take (n):=⟨_,rfl⟩;have hcl:cs.length=n:=by rw[hcs,zu,yp]; omega
 have hget:∀j v,cs[j]?=some v->w.cell? ⟨b,j,none⟩=some v:=fun j v hj=>by
  rw[hcs,zr] at hj;split at hj
  ·exact (C1 (w:=w) hg).trans (by simpa using hj)
  ·cases hj
 have hold:(Builtin.firstCells i0.size i (.slice (some ⟨b,0,none⟩) i c)).run Tryz.prog w.drew = .ok (cs.take (i)).toArray w.drew:=by
  rw[hzs];exact run_firstCells_some w.drew 1 i ⟨b,0,none⟩ i c (cs.take (i)) (by rw[zu]; omega) (fun j v hj=>by
   rw[Addr.add_lit,yu];rw[zr] at hj;split at hj
   ·exact hget j v hj
   ·cases hj)
 obtain⟨G,hG⟩:∃G,G=grownCap w (n+1) c 3:=⟨_,rfl⟩;obtain⟨ROW,hROW⟩:∃ROW:List Value,ROW=((cs.take (i)).toArray++Builtin.zeroCells (Value.cells (.int .i64 0)) (n+1 - i)++Builtin.zeroCells (Value.cells (.int .i64 0)) (G - (n+1))).toList:=⟨_,rfl⟩;have hrz:∀ty,(Builtin.append_ #[106,3] ty #[.slice (some ⟨b,0,none⟩) i c,.int .i64 ((n:Int)+1 - (i:Int))]).run Tryz.prog w =
   .ok (.slice (some ⟨w.heap.size,0,none⟩) (n+1) G) (w.drew.alloc (.cells ROW.toArray 3)):=fun ty=>by
  have h:=Lib.run_append_grow_zeros w 106 3 ty 3 i0 _ .i64 .i64 Tryz.underlying106 Tryz.underlying3 hi0 hz0 (some ⟨b,0,none⟩) i c (cs.take (i)) hold (n+1 - i) (by omega) (by omega) (by omega) (by omega) (by rw[hzb]; omega) (by rw[hzb,hik]; exact growslice_fits hroom hbig);rw[hik,←hG] at h;rw[hkk,hROW,Array.toArray_toList];exact h
 have hGn:n+1<=G:=by rw[hG]; exact grownCap_ge w _ _ _
 have hG63:G<=9223372036854775807:=by
  have:=grownCap_le_maxLen w (n+1) c 3 (by unfold maxLen; omega);rw[←hG] at this;unfold maxLen at this;omega
 have hRl:ROW.length=G*1:=by
  rw[hROW,yp,wk,wk,size_zeroCells,size_zeroCells,yc,zu,hcl];simp only[Value.cells,Array.size,List.length];omega
 have hRt:ROW.take (i)=cur.toList.take (i):=by
  rw[hROW,va,va,xg,ub (by simp[hcl]; omega),zn (by simp; omega),hcs,vt,wu (by omega)]
 obtain⟨W1,hW1⟩:∃W1,W1=w.drew.alloc (.cells ROW.toArray 3):=⟨_,rfl⟩;rw[←hW1] at hrz;have hgN:W1.heap[w.heap.size]?=some (.cells ROW.toArray 3 (0,0)):=by rw[hW1]; exact heap_alloc_new w.drew _
 have hgb:W1.heap[b]?=w.heap[b]?:=by rw[hW1]; exact Below.heap_alloc w.drew _ b hbw
 have hgv:W1.heap[vb]?=w.heap[vb]?:=by rw[hW1]; exact Below.heap_alloc w.drew _ vb hvw
 have hcpA:∀(W:World),W.heap=W1.heap->∀ty dc,(Builtin.copy_ #[106,106] ty #[.slice (some ⟨w.heap.size,i,none⟩) (n+1 - i) dc,.slice (some ⟨vb,0,none⟩) 1 vc]).run Tryz.prog W = .ok (goInt 1) (W.setRow w.heap.size (E3 ROW (i) vs).toArray):=fun W hWh ty dc =>
  L3 W _ _ ty 3 w.heap.size (i) 1 (n+1 - i) dc 1 vc 1 ⟨vb,0,none⟩ vs ROW.toArray 3 Tryz.underlying106 Tryz.underlying106 hsz (by simp only[uf]; split<;>omega) (by omega)
   (fun j v hj=>by
    rw[Addr.add_lit,yu,←hvs j v hj];exact World.cell?_of_block (w:=w) (by rw[hWh]; exact hgv)) (by rw[hWh]; exact hgN) (by simp only[yc]; omega) h1v
 obtain⟨R1,hR1⟩:∃R1,R1=E3 ROW (i) vs:=⟨_,rfl⟩;rw[←hR1] at hcpA;have hR1l:R1.length=G*1:=by rw[hR1,I2 (by omega)]; exact hRl
 obtain⟨W2,hW2⟩:∃W2,W2=W1.setRow w.heap.size R1.toArray:=⟨_,rfl⟩;have hgN2:W2.heap[w.heap.size]?=some (.cells R1.toArray 3 (0,0)):=by rw[hW2]; exact setRow_heap W1 _ _ _ _ (0,0) hgN
 have hgb2:W2.heap[b]?=w.heap[b]?:=by rw[hW2]; exact (setRow_other W1 _ b _ (by omega)).trans hgb
 obtain⟨cs2,hcs2⟩:∃cs2,cs2=cs.drop (i):=⟨_,rfl⟩;have hl2:cs2.length=(n - i)*1:=by rw[hcs2,xc,hcl]; omega
 have hcpB:∀(W:World),W.heap=W2.heap->∀ty dc sc,(Builtin.copy_ #[106,106] ty #[.slice (some ⟨w.heap.size,i+1,none⟩) (n - i) dc,.slice (some ⟨b,i,none⟩) (n - i) sc]).run Tryz.prog W = .ok (goInt ((n - i:Nat):Int)) (W.setRow w.heap.size (E3 R1 (i+1) cs2).toArray):=fun W hWh ty dc sc =>
  L3 W _ _ ty 3 w.heap.size (i+1) (n - i) (n - i) dc (n - i) sc 1 ⟨b,i,none⟩ cs2 R1.toArray 3 Tryz.underlying106 Tryz.underlying106 hsz (tq _) hl2
   (fun j v hj=>by
    rw[Addr.add_lit,←hget (i+j) v (by rw[hcs2,zw] at hj; exact hj)];exact World.cell?_of_block (w:=w) (by rw[hWh]; exact hgb2)) (by rw[hWh]; exact hgN2) (by simp only[yc]; omega)
   (fun v hv=>h1c v (by rw[←hcs]; rw[hcs2] at hv; exact xh hv))
 have hGi:¬(G=i):=by omega
 have hGim:¬(G=i+1):=by omega
 have hci:¬(c=i):=by omega
 have hw1:IntKind.i64.wrap ((i:Int)+1)=(i:Int)+1:=by rw[IntKind.wrap_i64]; omega
 have hb1:(0:Int)<=(i:Int)+1:=by omega
 have hin:i<=n:=by omega
 have htn:((i:Int)+1).toNat=i+1:=by omega
 have hb3:(i:Int)<=(n:Int):=by omega
 rw[←hG,←hcs,←hcs2];have hE1:((w.alloc (.cells ROW.toArray 3)).drew).heap=W1.heap:=by rw[hW1]; rfl
 have hF1:((((w.alloc (.cells ROW.toArray 3)).drew).setRow w.heap.size R1.toArray).drew).heap=W2.heap:=by rw[hW2,hW1]; rfl
 have hfinal:∃q ROW',ROW'.length=G*1/\ROW'.take (i)=cur.toList.take (i)/\((((w.alloc (.cells ROW.toArray 3)).drew.setRow w.heap.size R1.toArray).drew).setRow w.heap.size (E3 R1 (i+1) cs2).toArray)=(((w.drewN q).alloc (.cells ROW'.toArray 3)).setRow w.heap.size (E3 ROW' (i) vs).toArray).setRow w.heap.size (E3 (E3 ROW' (i) vs) (i+1) cs2).toArray:=⟨2,ROW,hRl,hRt,by rw[←hR1]; rfl⟩;subst hW1;clear hkk hik hold hROW hG hRl hRt hR1 hW2 hcs hcs2 hgN hgb hgv hgN2 hgb2
 go_enter Tryz.func315,Tryz.ntmps315
 go_wp2_with (first
  | (at_builtin; refine Lib.wpList_append_run _ rfl _ _ _ _ rfl _ _ rfl rfl _ _ (hrz _) ?_)
  | (at_builtin; refine wpList_copy_runI _ rfl _ _ 106 106 rfl _ _ rfl rfl (hcpA _ hE1 _ _) ?_))
 go_region_law_o (refine step_copy_runI rfl _ _ 106 106 rfl _ _ (by simp[Act.eval,Act.put]) (by simp[Act.eval,Act.put]) (hcpB _ hF1 _ _ _) ?_)
 go_wp2
 go_ret
 exact⟨rfl,hfinal⟩
theorem A4Z(b n c i vb vc:Nat)(cur:Array Value)(el:TypeId)(vs:List Value)(w:World)(hi:i<n)(hnc:n<=c)(hroom:c<n+1)(hbig:(n+1)*40<=140737488355328)(hvl:vs.length=3)
  (hg:w.heap[b]?=some (.cells cur el (0,0))) (hcz:n*3<=cur.size) (h1c:∀v∈cur.toList.take (n*3),v.oneCell'=true) (hvs:∀j v,vs[j]?=some v->w.cell? ⟨vb,j,none⟩=some v) (h1v:∀v∈vs,v.oneCell'=true) :
  Calls Tryz.prog 260 #[.slice (some ⟨b,0,none⟩) n c,.int .i64 i,.slice (some ⟨vb,0,none⟩) 1 vc] w fun e w' =>
   e = .returned (.slice (some ⟨w.heap.size,0,none⟩) (n+1) (grownCap w (n+1) c 66))/\∃q ROW,ROW.length=grownCap w (n+1) c 66*3/\ROW.take (i*3)=cur.toList.take (i*3) /\
    w'=(((w.drewN q).alloc (.cells ROW.toArray 66)).setRow w.heap.size (E3 ROW (i*3) vs).toArray).setRow w.heap.size (E3 (E3 ROW (i*3) vs) ((i+1)*3) ((cur.toList.take (n*3)).drop (i*3))).toArray:=by
 have u3:=run_underlying (P:=Tryz.prog) Tryz.underlying3;have uT:=run_underlying (P:=Tryz.prog) Tryz.underlying27;have mixed:Tryz.prog.follows .mixedOrders=true:=by kernel_rfl
 obtain⟨i0,hi0,hz0,hzs,hzb⟩:=info_parts (P:=Tryz.prog) (e:=66) (z:=.agg #[.int .i64 0,.int .i64 0,.slice none 0 0]) (size:=3) (bytes:=40) (by kernel_rfl);have hz2:¬((i:Int)=(n:Int)):=by omega
 have hz3:(c:Int)<(n:Int)+1:=by omega
 have hsz:(Tryz.prog.info? 66).map (·.size)=some 3:=by rw[hi0]; simp[hzs]
 have hbw:b<w.heap.size:=(xl.1 hg).1;have hvw:vb<w.heap.size:=block_lt_of_cell (hvs 0 _ (zd (by omega)));have hkk:(n:Int)+1 - (i:Int)=((n+1 - i:Nat):Int):=by omega
 have hik:i+(n+1 - i)=n+1:=by omega
 obtain⟨cs,hcs⟩:∃cs,cs=cur.toList.take (n*3):=⟨_,rfl⟩;have hcl:cs.length=n*3:=by rw[hcs,zu,yp]; omega
 have hget:∀j v,cs[j]?=some v->w.cell? ⟨b,j,none⟩=some v:=fun j v hj=>by
  rw[hcs,zr] at hj;split at hj
  ·exact (C1 (w:=w) hg).trans (by simpa using hj)
  ·cases hj
 have hold:(Builtin.firstCells i0.size i (.slice (some ⟨b,0,none⟩) i c)).run Tryz.prog w.drew = .ok (cs.take (i*3)).toArray w.drew:=by
  rw[hzs];exact run_firstCells_some w.drew 3 i ⟨b,0,none⟩ i c (cs.take (i*3)) (by rw[zu]; omega) (fun j v hj=>by
   rw[Addr.add_lit,yu];rw[zr] at hj;split at hj
   ·exact hget j v hj
   ·cases hj)
 obtain⟨G,hG⟩:∃G,G=grownCap w (n+1) c 66:=⟨_,rfl⟩;obtain⟨ROW,hROW⟩:∃ROW:List Value,ROW=((cs.take (i*3)).toArray++Builtin.zeroCells (Value.cells (.agg #[.int .i64 0,.int .i64 0,.slice none 0 0])) (n+1 - i)++Builtin.zeroCells (Value.cells (.agg #[.int .i64 0,.int .i64 0,.slice none 0 0])) (G - (n+1))).toList:=⟨_,rfl⟩;have hrz:∀ty,(Builtin.append_ #[27,3] ty #[.slice (some ⟨b,0,none⟩) i c,.int .i64 ((n:Int)+1 - (i:Int))]).run Tryz.prog w =
   .ok (.slice (some ⟨w.heap.size,0,none⟩) (n+1) G) (w.drew.alloc (.cells ROW.toArray 66)):=fun ty=>by
  have h:=Lib.run_append_grow_zeros w 27 3 ty 66 i0 _ .i64 .i64 Tryz.underlying27 Tryz.underlying3 hi0 hz0 (some ⟨b,0,none⟩) i c (cs.take (i*3)) hold (n+1 - i) (by omega) (by omega) (by omega) (by omega) (by rw[hzb]; omega) (by rw[hzb,hik]; exact growslice_fits hroom hbig);rw[hik,←hG] at h;rw[hkk,hROW,Array.toArray_toList];exact h
 have hGn:n+1<=G:=by rw[hG]; exact grownCap_ge w _ _ _
 have hG63:G<=9223372036854775807:=by
  have:=grownCap_le_maxLen w (n+1) c 66 (by unfold maxLen; omega);rw[←hG] at this;unfold maxLen at this;omega
 have hRl:ROW.length=G*3:=by
  rw[hROW,yp,wk,wk,size_zeroCells,size_zeroCells,yc,zu,hcl];simp only[Value.cells,Array.size,List.length];omega
 have hRt:ROW.take (i*3)=cur.toList.take (i*3):=by
  rw[hROW,va,va,xg,ub (by simp[hcl]; omega),zn (by simp; omega),hcs,vt,wu (by omega)]
 obtain⟨W1,hW1⟩:∃W1,W1=w.drew.alloc (.cells ROW.toArray 66):=⟨_,rfl⟩;rw[←hW1] at hrz;have hgN:W1.heap[w.heap.size]?=some (.cells ROW.toArray 66 (0,0)):=by rw[hW1]; exact heap_alloc_new w.drew _
 have hgb:W1.heap[b]?=w.heap[b]?:=by rw[hW1]; exact Below.heap_alloc w.drew _ b hbw
 have hgv:W1.heap[vb]?=w.heap[vb]?:=by rw[hW1]; exact Below.heap_alloc w.drew _ vb hvw
 have hcpA:∀(W:World),W.heap=W1.heap->∀ty dc,(Builtin.copy_ #[27,27] ty #[.slice (some ⟨w.heap.size,i*3,none⟩) (n+1 - i) dc,.slice (some ⟨vb,0,none⟩) 1 vc]).run Tryz.prog W = .ok (goInt 1) (W.setRow w.heap.size (E3 ROW (i*3) vs).toArray):=fun W hWh ty dc =>
  L3 W _ _ ty 66 w.heap.size (i*3) 1 (n+1 - i) dc 1 vc 3 ⟨vb,0,none⟩ vs ROW.toArray 66 Tryz.underlying27 Tryz.underlying27 hsz (by simp only[uf]; split<;>omega) (by omega)
   (fun j v hj=>by
    rw[Addr.add_lit,yu,←hvs j v hj];exact World.cell?_of_block (w:=w) (by rw[hWh]; exact hgv)) (by rw[hWh]; exact hgN) (by simp only[yc]; omega) h1v
 obtain⟨R1,hR1⟩:∃R1,R1=E3 ROW (i*3) vs:=⟨_,rfl⟩;rw[←hR1] at hcpA;have hR1l:R1.length=G*3:=by rw[hR1,I2 (by omega)]; exact hRl
 obtain⟨W2,hW2⟩:∃W2,W2=W1.setRow w.heap.size R1.toArray:=⟨_,rfl⟩;have hgN2:W2.heap[w.heap.size]?=some (.cells R1.toArray 66 (0,0)):=by rw[hW2]; exact setRow_heap W1 _ _ _ _ (0,0) hgN
 have hgb2:W2.heap[b]?=w.heap[b]?:=by rw[hW2]; exact (setRow_other W1 _ b _ (by omega)).trans hgb
 obtain⟨cs2,hcs2⟩:∃cs2,cs2=cs.drop (i*3):=⟨_,rfl⟩;have hl2:cs2.length=(n - i)*3:=by rw[hcs2,xc,hcl]; omega
 have hcpB:∀(W:World),W.heap=W2.heap->∀ty dc sc,(Builtin.copy_ #[27,27] ty #[.slice (some ⟨w.heap.size,(i+1)*3,none⟩) (n - i) dc,.slice (some ⟨b,i*3,none⟩) (n - i) sc]).run Tryz.prog W = .ok (goInt ((n - i:Nat):Int)) (W.setRow w.heap.size (E3 R1 ((i+1)*3) cs2).toArray):=fun W hWh ty dc sc =>
  L3 W _ _ ty 66 w.heap.size ((i+1)*3) (n - i) (n - i) dc (n - i) sc 3 ⟨b,i*3,none⟩ cs2 R1.toArray 66 Tryz.underlying27 Tryz.underlying27 hsz (tq _) hl2
   (fun j v hj=>by
    rw[Addr.add_lit,←hget (i*3+j) v (by rw[hcs2,zw] at hj; exact hj)];exact World.cell?_of_block (w:=w) (by rw[hWh]; exact hgb2)) (by rw[hWh]; exact hgN2) (by simp only[yc]; omega)
   (fun v hv=>h1c v (by rw[←hcs]; rw[hcs2] at hv; exact xh hv))
 have hGi:¬(G=i):=by omega
 have hGim:¬(G=i+1):=by omega
 have hci:¬(c=i):=by omega
 have hw1:IntKind.i64.wrap ((i:Int)+1)=(i:Int)+1:=by rw[IntKind.wrap_i64]; omega
 have hb1:(0:Int)<=(i:Int)+1:=by omega
 have hin:i<=n:=by omega
 have htn:((i:Int)+1).toNat=i+1:=by omega
 have hb3:(i:Int)<=(n:Int):=by omega
 rw[←hG,←hcs,←hcs2];have hE1:((w.alloc (.cells ROW.toArray 66)).drew).heap=W1.heap:=by rw[hW1]; rfl
 have hF1:((((w.alloc (.cells ROW.toArray 66)).drew).setRow w.heap.size R1.toArray).drew).heap=W2.heap:=by rw[hW2,hW1]; rfl
 have hfinal:∃q ROW',ROW'.length=G*3/\ROW'.take (i*3)=cur.toList.take (i*3)/\((((w.alloc (.cells ROW.toArray 66)).drew.setRow w.heap.size R1.toArray).drew).setRow w.heap.size (E3 R1 ((i+1)*3) cs2).toArray)=(((w.drewN q).alloc (.cells ROW'.toArray 66)).setRow w.heap.size (E3 ROW' (i*3) vs).toArray).setRow w.heap.size (E3 (E3 ROW' (i*3) vs) ((i+1)*3) cs2).toArray:=⟨2,ROW,hRl,hRt,by rw[←hR1]; rfl⟩;subst hW1;clear hkk hik hold hROW hG hRl hRt hR1 hW2 hcs hcs2 hgN hgb hgv hgN2 hgb2
 go_enter Tryz.func260,Tryz.ntmps260
 go_wp2_with (first
  | (at_builtin; refine Lib.wpList_append_run _ rfl _ _ _ _ rfl _ _ rfl rfl _ _ (hrz _) ?_)
  | (at_builtin; refine wpList_copy_runI _ rfl _ _ 27 27 rfl _ _ rfl rfl (hcpA _ hE1 _ _) ?_))
 go_region_law_o (refine step_copy_runI rfl _ _ 27 27 rfl _ _ (by simp[Act.eval,Act.put]) (by simp[Act.eval,Act.put]) (hcpB _ hF1 _ _ _) ?_)
 go_wp2
 go_ret
 exact⟨rfl,hfinal⟩
theorem x8{P:Program}{ops:Array Oper}{o:Oper}{a:Act}{w:World}{K:Act->World->Prop}{Q:Exit->Act->World->Prop}{E:Prop}
  (hg:o.guard=none) (d x:Operand) (dT sT:TypeId) (hop:o.op=Op.call { callee:=Callee.builtin Builtin.append,args:=#[d,x],argTypes:=#[dT,sT] })
  (v u:Value) (hd:a.eval d=v) (hx:a.eval x=u) {v':Value} {w':World} (hr:(Builtin.append_ #[dT,sT] o.type #[v,u]).run P w = .ok v' w') (hK:K (a.put o.dst v') w') :
  if Region.wanted o (yielded ops a.tmps)=true then Oper.wp P o a w K Q else E:=by
 have hw:Region.wanted o (yielded ops a.tmps)=true:=by simp[Region.wanted,hg]
 rw[zk hw];unfold Oper.wp;simp[execOp,hop,resolve,invoke,builtin,hd,hx,hr,Result.andThen];exact hK
theorem A8j(A:Option Addr)(n c vb vc:Nat)(w w1:World)(v:Value)(hnc:n<=c)(hc63:c<=9223372036854775807)(hA:A=none->c=0)
  (hrun:∀ty,(Builtin.append_ #[106,106] ty #[.slice A n c,.slice (some ⟨vb,0,none⟩) 1 vc]).run Tryz.prog w = .ok v w1) :
  Calls Tryz.prog 315 #[.slice A n c,.int .i64 n,.slice (some ⟨vb,0,none⟩) 1 vc] w fun e w'=>e = .returned v/\w'=w1:=by
 have uT:=run_underlying (P:=Tryz.prog) Tryz.underlying106;have mixed:Tryz.prog.follows .mixedOrders=true:=by kernel_rfl
 have hnn:(0:Int)<=(n:Int):=by omega
 cases A with
 | none =>
  obtain rfl:c=0:=hA rfl;obtain rfl:n=0:=by omega
  go_enter Tryz.func315,Tryz.ntmps315
  go_wp2_with (at_builtin; refine Lib.wpList_append_run _ rfl _ _ _ _ rfl _ _ rfl rfl _ _ (hrun _) ?_)
  go_ret
  exact⟨rfl,rfl⟩
 | some a =>
  clear hA
  go_enter Tryz.func315,Tryz.ntmps315
  go_wp2_with (at_builtin; refine Lib.wpList_append_run _ rfl _ _ _ _ rfl _ _ rfl rfl _ _ (hrun _) ?_)
  all_goals (go_ret; exact⟨rfl,rfl⟩)
theorem A6O(A:Option Addr)(n c vb vc:Nat)(w w1:World)(v:Value)(hnc:n<=c)(hc63:c<=9223372036854775807)(hA:A=none->c=0)
  (hrun:∀ty,(Builtin.append_ #[27,27] ty #[.slice A n c,.slice (some ⟨vb,0,none⟩) 1 vc]).run Tryz.prog w = .ok v w1) :
  Calls Tryz.prog 260 #[.slice A n c,.int .i64 n,.slice (some ⟨vb,0,none⟩) 1 vc] w fun e w'=>e = .returned v/\w'=w1:=by
 have uT:=run_underlying (P:=Tryz.prog) Tryz.underlying27;have mixed:Tryz.prog.follows .mixedOrders=true:=by kernel_rfl
 have hnn:(0:Int)<=(n:Int):=by omega
 cases A with
 | none =>
  obtain rfl:c=0:=hA rfl;obtain rfl:n=0:=by omega
  go_enter Tryz.func260,Tryz.ntmps260
  go_wp2_with (at_builtin; refine Lib.wpList_append_run _ rfl _ _ _ _ rfl _ _ rfl rfl _ _ (hrun _) ?_)
  go_ret
  exact⟨rfl,rfl⟩
 | some a =>
  clear hA
  go_enter Tryz.func260,Tryz.ntmps260
  go_wp2_with (at_builtin; refine Lib.wpList_append_run _ rfl _ _ _ _ rfl _ _ rfl rfl _ _ (hrun _) ?_)
  all_goals (go_ret; exact⟨rfl,rfl⟩)
theorem B3w(b n c i:Nat)(cur:Array Value)(el:TypeId)(w:World)(hi:i<n)(hnc:n<=c)(hc63:c<=9223372036854775807)
  (hg:w.heap[b]?=some (.cells cur el (0,0))) (hcz:cur.size=c) (h1c:∀v∈cur.toList.take (n),v.oneCell'=true) :
  Calls Tryz.prog 300 #[.slice (some ⟨b,0,none⟩) n c,.int .i64 i,.int .i64 ((i:Int)+1)] w fun e w' =>
   e = .returned (.slice (some ⟨b,0,none⟩) (i+(n - (i+1))) c)/\∃q,w'=((w.drewN q).setRow b (E3 cur.toList (i) ((cur.toList.take (n)).drop (i+1))).toArray).setRow b (E3 (E3 cur.toList (i) ((cur.toList.take (n)).drop (i+1))) (i+(n - (i+1))) (Builtin.zeroCells (Value.cells (.int .i64 0)) 1).toList).toArray:=by
 have uT:=run_underlying (P:=Tryz.prog) Tryz.underlying106;have u3:=run_underlying (P:=Tryz.prog) Tryz.underlying3;have mixed:Tryz.prog.follows .mixedOrders=true:=by kernel_rfl
 obtain⟨i0,hi0,hz0,hzs,hzb⟩:=info_parts (P:=Tryz.prog) (e:=3) (z:=.int .i64 0) (size:=1) (bytes:=8) (by kernel_rfl);have hne:¬((i:Int)=(i:Int)+1):=by omega
 have hcj:i+1<=c:=by omega
 have htn:((i:Int)+1).toNat=i+1:=by omega
 have hb1:(0:Int)<=(i:Int)+1:=by omega
 have hin:i<=n:=by omega
 have hin1:(i:Int)+1<=(n:Int):=by omega
 have hic:i<=c:=by omega
 obtain⟨cs,hcs⟩:∃cs,cs=(cur.toList.take (n)).drop (i+1):=⟨_,rfl⟩;have hl:cs.length=(n - (i+1))*1:=by rw[hcs,xc,zu,yp]; omega
 have hget:∀j v,cs[j]?=some v->cur[i+1+j]?=some v:=fun j v hj=>by
  rw[hcs,zw,zr] at hj;split at hj
  ·simpa using hj
  ·cases hj
 have h1s:∀v∈cs,v.oneCell'=true:=fun v hv=>h1c v (by rw[hcs] at hv; exact xh hv);obtain⟨A,hA,hsrcA⟩:∃A:Addr,(if c=i+1 then some (⟨b,0,none⟩:Addr) else some ⟨b,i+1,none⟩)=some A/\∀j v,cs[j]?=some v->w.drew.cell? (A.add j)=some v:=by
  by_cases h:c=i+1
  ·refine⟨⟨b,0,none⟩,by simp[h],fun j v hj=>?_⟩;have h0:cs.length=0:=(by rw[hl,show n - (i+1)=0 by omega]<;>simp);rw[vk.1 h0] at hj;simp at hj
  ·refine⟨⟨b,i+1,none⟩,by simp[h],fun j v hj=>?_⟩;rw[Addr.add_lit];exact (C1 (w:=w.drew) hg).trans (hget j v hj)
 have hsrc:∀cc,Src Tryz.prog 1 106 (.slice (some A) (n - (i+1)) cc) (n - (i+1)) cs w.drew:=fun cc=>Src.ofSlice w.drew Tryz.underlying106 A (n - (i+1)) cc cs hl hsrcA h1s;have hap:∀ty cc,(Builtin.append_ #[106,106] ty #[.slice (some ⟨b,0,none⟩) i c,.slice (some A) (n - (i+1)) cc]).run Tryz.prog w.drew = .ok (.slice (some ⟨b,0,none⟩) (i+(n - (i+1))) c) (w.drew.setRow b (E3 cur.toList (i) cs).toArray):=fun ty cc=>by
  have h:=P5 (P:=Tryz.prog) (w:=w.drew) 106 106 ty 3 i0 Tryz.underlying106 hi0 b i c cur el hg (.slice (some A) (n - (i+1)) cc) (n - (i+1)) cs (by rw[hzs]; exact hsrc cc) (by omega) (by rw[hzs]; omega);rw[hzs] at h;simpa [E3] using h
 obtain⟨L1,hL1⟩:∃L1,L1=E3 cur.toList (i) cs:=⟨_,rfl⟩;rw[←hL1] at hap;obtain⟨W1,hW1⟩:∃W1,W1=w.drew.setRow b L1.toArray:=⟨_,rfl⟩;have hg1:W1.heap[b]?=some (.cells L1.toArray el (0,0)):=by rw[hW1]; exact setRow_heap w.drew b cur _ el (0,0) hg
 have hsz1:L1.length=c:=by rw[hL1,I2 (by simp; omega)]; simpa using hcz
 have hzl:(Builtin.zeroCells (Value.cells (.int .i64 0)) 1).toList.length=1:=by rw[yp,size_zeroCells]<;>rfl
 have hcl:∀ty cc,(Builtin.clear_ #[106] ty #[.slice (some ⟨b,i+(n - (i+1)),none⟩) (n - (i+(n - (i+1)))) cc]).run Tryz.prog W1 = .ok (.tuple #[]) (W1.setRow b (E3 L1 (i+(n - (i+1))) (Builtin.zeroCells (Value.cells (.int .i64 0)) 1).toList).toArray):=fun ty cc=>by
  have hst:=run_storeCells_at Tryz.prog b (i+(n - (i+1))) el (Builtin.zeroCells (Value.cells (.int .i64 0)) 1).toList 0 L1.toArray W1 hg1 (by rw[hzl,yc]; omega) (fun v hv=>by simp[Builtin.zeroCells,Value.cells] at hv; rcases hv with⟨a,ha,rfl⟩; first|rfl|(match a,ha with|0,_=>rfl|1,_=>rfl|2,_=>rfl));simp only[wh] at hst;rw[show n - (i+(n - (i+1)))=1 by omega];simp[Builtin.clear_,uT,A1T (show (Tryz.prog.info? 3).map (·.zero)=some (some (.int .i64 0)) by kernel_rfl),hst,E3]
 rw[←hW1] at hap;rw[←hcs,←hL1];have hW:Hid (W1=w.drew.setRow b L1.toArray):=hW1;clear hW1 hL1 hcs hsrc hsrcA hi0 hz0 hzs hzb hget hl h1s h1c hg hg1
 go_enter Tryz.func300,Tryz.ntmps300
 go_wp2_with fail
 go_region_law_o (refine x8 rfl (.tmp 22) (.tmp 25) 106 106 rfl (.slice (some ⟨b,0,none⟩) i c) (.slice (some A) (n - (i+1)) (c - (i+1))) (by first|rfl|(simp[Act.eval,Act.put]; done)|(simp[Act.eval,Act.put,hA]; done)) (by first|rfl|(simp[Act.eval,Act.put]; done)|(simp[Act.eval,Act.put,hA]; done)) (hap _ _) ?_)
 go_wp2
 go_ret
 exact⟨rfl,1,by rw[hW.out]; rfl⟩
theorem B0Y(b n c i:Nat)(cur:Array Value)(el:TypeId)(w:World)(hi:i<n)(hnc:n<=c)(hc63:c<=9223372036854775807)
  (hg:w.heap[b]?=some (.cells cur el (0,0))) (hcz:cur.size=c*3) (h1c:∀v∈cur.toList.take (n*3),v.oneCell'=true) :
  Calls Tryz.prog 262 #[.slice (some ⟨b,0,none⟩) n c,.int .i64 i,.int .i64 ((i:Int)+1)] w fun e w' =>
   e = .returned (.slice (some ⟨b,0,none⟩) (i+(n - (i+1))) c)/\∃q,w'=((w.drewN q).setRow b (E3 cur.toList (i*3) ((cur.toList.take (n*3)).drop ((i+1)*3))).toArray).setRow b (E3 (E3 cur.toList (i*3) ((cur.toList.take (n*3)).drop ((i+1)*3))) ((i+(n - (i+1)))*3) (Builtin.zeroCells (Value.cells (.agg #[.int .i64 0,.int .i64 0,.slice none 0 0])) 1).toList).toArray:=by
 have uT:=run_underlying (P:=Tryz.prog) Tryz.underlying27;have u3:=run_underlying (P:=Tryz.prog) Tryz.underlying3;have mixed:Tryz.prog.follows .mixedOrders=true:=by kernel_rfl
 obtain⟨i0,hi0,hz0,hzs,hzb⟩:=info_parts (P:=Tryz.prog) (e:=66) (z:=.agg #[.int .i64 0,.int .i64 0,.slice none 0 0]) (size:=3) (bytes:=40) (by kernel_rfl);have hne:¬((i:Int)=(i:Int)+1):=by omega
 have hcj:i+1<=c:=by omega
 have htn:((i:Int)+1).toNat=i+1:=by omega
 have hb1:(0:Int)<=(i:Int)+1:=by omega
 have hin:i<=n:=by omega
 have hin1:(i:Int)+1<=(n:Int):=by omega
 have hic:i<=c:=by omega
 obtain⟨cs,hcs⟩:∃cs,cs=(cur.toList.take (n*3)).drop ((i+1)*3):=⟨_,rfl⟩;have hl:cs.length=(n - (i+1))*3:=by rw[hcs,xc,zu,yp]; omega
 have hget:∀j v,cs[j]?=some v->cur[(i+1)*3+j]?=some v:=fun j v hj=>by
  rw[hcs,zw,zr] at hj;split at hj
  ·simpa using hj
  ·cases hj
 have h1s:∀v∈cs,v.oneCell'=true:=fun v hv=>h1c v (by rw[hcs] at hv; exact xh hv);obtain⟨A,hA,hsrcA⟩:∃A:Addr,(if c=i+1 then some (⟨b,0,none⟩:Addr) else some ⟨b,(i+1)*3,none⟩)=some A/\∀j v,cs[j]?=some v->w.drew.cell? (A.add j)=some v:=by
  by_cases h:c=i+1
  ·refine⟨⟨b,0,none⟩,by simp[h],fun j v hj=>?_⟩;have h0:cs.length=0:=(by rw[hl,show n - (i+1)=0 by omega]<;>simp);rw[vk.1 h0] at hj;simp at hj
  ·refine⟨⟨b,(i+1)*3,none⟩,by simp[h],fun j v hj=>?_⟩;rw[Addr.add_lit];exact (C1 (w:=w.drew) hg).trans (hget j v hj)
 have hsrc:∀cc,Src Tryz.prog 3 27 (.slice (some A) (n - (i+1)) cc) (n - (i+1)) cs w.drew:=fun cc=>Src.ofSlice w.drew Tryz.underlying27 A (n - (i+1)) cc cs hl hsrcA h1s;have hap:∀ty cc,(Builtin.append_ #[27,27] ty #[.slice (some ⟨b,0,none⟩) i c,.slice (some A) (n - (i+1)) cc]).run Tryz.prog w.drew = .ok (.slice (some ⟨b,0,none⟩) (i+(n - (i+1))) c) (w.drew.setRow b (E3 cur.toList (i*3) cs).toArray):=fun ty cc=>by
  have h:=P5 (P:=Tryz.prog) (w:=w.drew) 27 27 ty 66 i0 Tryz.underlying27 hi0 b i c cur el hg (.slice (some A) (n - (i+1)) cc) (n - (i+1)) cs (by rw[hzs]; exact hsrc cc) (by omega) (by rw[hzs]; omega);rw[hzs] at h;simpa [E3] using h
 obtain⟨L1,hL1⟩:∃L1,L1=E3 cur.toList (i*3) cs:=⟨_,rfl⟩;rw[←hL1] at hap;obtain⟨W1,hW1⟩:∃W1,W1=w.drew.setRow b L1.toArray:=⟨_,rfl⟩;have hg1:W1.heap[b]?=some (.cells L1.toArray el (0,0)):=by rw[hW1]; exact setRow_heap w.drew b cur _ el (0,0) hg
 have hsz1:L1.length=c*3:=by rw[hL1,I2 (by simp; omega)]; simpa using hcz
 have hzl:(Builtin.zeroCells (Value.cells (.agg #[.int .i64 0,.int .i64 0,.slice none 0 0])) 1).toList.length=3:=by rw[yp,size_zeroCells]<;>rfl
 have hcl:∀ty cc,(Builtin.clear_ #[27] ty #[.slice (some ⟨b,(i+(n - (i+1)))*3,none⟩) (n - (i+(n - (i+1)))) cc]).run Tryz.prog W1 = .ok (.tuple #[]) (W1.setRow b (E3 L1 ((i+(n - (i+1)))*3) (Builtin.zeroCells (Value.cells (.agg #[.int .i64 0,.int .i64 0,.slice none 0 0])) 1).toList).toArray):=fun ty cc=>by
  have hst:=run_storeCells_at Tryz.prog b ((i+(n - (i+1)))*3) el (Builtin.zeroCells (Value.cells (.agg #[.int .i64 0,.int .i64 0,.slice none 0 0])) 1).toList 0 L1.toArray W1 hg1 (by rw[hzl,yc]; omega) (fun v hv=>by simp[Builtin.zeroCells,Value.cells] at hv; rcases hv with⟨a,ha,rfl⟩; first|rfl|(match a,ha with|0,_=>rfl|1,_=>rfl|2,_=>rfl));simp only[wh] at hst;rw[show n - (i+(n - (i+1)))=1 by omega];simp[Builtin.clear_,uT,A1T (show (Tryz.prog.info? 66).map (·.zero)=some (some (.agg #[.int .i64 0,.int .i64 0,.slice none 0 0])) by kernel_rfl),hst,E3]
 rw[←hW1] at hap;rw[←hcs,←hL1];have hW:Hid (W1=w.drew.setRow b L1.toArray):=hW1;clear hW1 hL1 hcs hsrc hsrcA hi0 hz0 hzs hzb hget hl h1s h1c hg hg1
 go_enter Tryz.func262,Tryz.ntmps262
 go_wp2_with fail
 go_region_law_o (refine x8 rfl (.tmp 22) (.tmp 25) 27 27 rfl (.slice (some ⟨b,0,none⟩) i c) (.slice (some A) (n - (i+1)) (c - (i+1))) (by first|rfl|(simp[Act.eval,Act.put]; done)|(simp[Act.eval,Act.put,hA]; done)) (by first|rfl|(simp[Act.eval,Act.put]; done)|(simp[Act.eval,Act.put,hA]; done)) (hap _ _) ?_)
 go_wp2
 go_ret
 exact⟨rfl,1,by rw[hW.out]; rfl⟩
end Go.Am
