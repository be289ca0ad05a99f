/- Parts of the proof: an abstract machine for Go functions, and what functions of the program give back (Ex23, Ex22, Ex24, Ex27, Ex28, Lb3, Lx4, Lx5, Lx6, Lx7, Lx8, Lx9, Lx10). No condition. -/
import Derived.Test.YtphjabjjnncebaaGreatDoorXR
import Derived.Test.YtphjabjjnncebaaGreatDoorXF
import Derived.Test.YtphjabjjnncebaaGreatDoorProg
import Derived.Maps.OwnOps
import Derived.WalkSpells
import Derived.Test.YtphjabjjnncebaaGreatDoorXG
import Derived.Test.YtphjabjjnncebaaGreatDoorXP
import Derived.Lib.ItoaLen
import Derived.Shelf.Small.Strs
import Derived.Test.YtphjabjjnncebaaGreatDoorXQ
import Derived.Recover
set_option maxRecDepth 100000
set_option linter.all false
set_option maxHeartbeats 16000000
namespace Go.Am
open Go Go.Maps Go.Proofs Go.RowKit Go.WideMaps
def B4p(ks:List (List UInt8))(i:Nat)(s:List UInt8):Int:=C4B (L7 s) ((ks.take i).any fun x=>x==s)
def B3E(ks:List (List UInt8)):Int:=D9 (B4p ks) ks 0
end Go.Am
namespace Go.Am
open Go Go.Proofs Go.RowKit
def B1S(o:H6):Int :=
 if o.kind<1\/5<o.kind then 7
 else if (o.kind≠2/\o.n≠0)\/(o.kind≠3/\o.text≠[])\/(o.kind≠5/\o.keys≠[])\/(o.kind<4/\o.kids≠[]) then 1
 else if ¬(-999999999<=o.n/\o.n<=999999999) then 3
 else if 40<o.text.length then 2
 else if o.kind=5/\o.keys.length≠o.kids.length then 1
 else B3E o.keys
mutual
def V4:H6->Int
 | .mk k n t ks l=>if B1S (.mk k n t ks l)≠0 then B1S (.mk k n t ks l) else A4X l
def A4X:List H6->Int
 | []=>0
 | o::r=>if V4 o≠0 then V4 o else A4X r
end
theorem B3F(o:H6):V4 o=if B1S o≠0 then B1S o else A4X o.kids:=by cases o; rfl
def hexT:List UInt8:=[48,49,50,51,52,53,54,55,56,57,97,98,99,100,101,102]
def A8z(n:Nat):UInt8:=hexT.getD n 0
def qBj(c:UInt8):List UInt8:=if c=34\/c=92 then [92,c] else if c=10 then [92,110] else if c.toNat<32 then [92,117,48,48,A8z (c.toNat / 16),A8z (c.toNat % 16)] else [c]
def qL(s:List UInt8):List UInt8:=s.flatMap qBj
def A0b(s:List UInt8):List UInt8:=34::qL s++[34]
theorem C0S(c:UInt8):1<=(qBj c).length/\(qBj c).length<=6:=by
 unfold qBj;repeat' split
 all_goals simp
theorem A8X(s:List UInt8):s.length<=(qL s).length/\(qL s).length<=6*s.length:=by
 induction s with
 | nil=>simp[qL]
 | cons c r ih =>
  have:=C0S c;simp only[qL,xj,yl,yd] at *;omega
theorem C2R{s:List UInt8}{i:Nat}{c:UInt8}(h:s[i]?=some c):qL (s.take (i+1))=qL (s.take i)++qBj c:=by
 unfold qL; rw[O2 h]; simp
theorem C5Z:∀n:Fin 32,Go.bits .and .u8 (n.val:Int) 15=((n.val % 16:Nat):Int):=by decide
theorem C4C{n:Nat}(h:n<32):Go.bits .and .u8 (n:Int) 15=((n % 16:Nat):Int):=C5Z ⟨n,h⟩
theorem B66{n:Nat}(h:n<16):hexT[n]?=some (A8z n):=by
 unfold A8z;rw[List.getD,zc (by simpa [hexT] using h)];rfl
theorem A5I{R:Rn}{S:Nat->Prop}{l:List UInt8}{r:List AV}(h:F9 r=true):N8 R S (eB l++r) (eB l++r):=C2 rfl (C4 (A3n l) h)
theorem B0E(s:List UInt8)(id:Nat)(h8:s.length<=1099511627776):A2 Tryz.prog 124 [.str s] [] id (.str (A0b s)) []:=by
 refine w124.e.1 fun E hP hR hl hid=>?_;simp[w124];refine D0 (X:=Nat) (fun i=>⟨[(0,true,.str s),(3,true,.bsl E.n0 0 (34::qL (s.take i)).length),(8,true,.int .i64 s.length),(9,true,.int .i64 i)],[(E.n0,some ⟨eB (34::qL (s.take i)),.int .u8 0,false,false⟩)],1⟩)
  (fun i=>i<=s.length) (fun i=>s.length - i) 0 ?_ (by omega) ?_
 ·have h0:eB (34::qL (s.take 0))=[.int .u8 34]:=by simp[qL,eB]
  have h1:qL []=[]:=rfl;refine yV [(E.n0,E.n0+1024)] (by simp[h0,h1]) fun hrn=>⟨?_,?_,?_,?_,?_⟩<;>(try simp[h0,h1]);exact C2 (by simp[eB]) rfl
 rintro i hi p hp;have hcv:∀(U:List UInt8),s.take i=s.take i->True:=fun _ _=>trivial;have h34:∀(c:UInt8) (n:Nat),n<256->(((c.toNat:Int)==(n:Int))=true↔c=UInt8.ofNat n):=fun c n hn=>by
  rw[beq_iff_eq];constructor
  ·intro h;have h:c.toNat=n:=(by omega);rw[←h]; simp
  ·intro h;subst h;simp; omega
 refine A3 4000 ?_;simp;refine E5 (fun h=>?_) (fun h=>?_)
 ·have h:=zr h;obtain⟨c,hc,hd⟩:=B2 h;have hi1:IntKind.i64.wrap ((i:Int)+1)=((i+1:Nat):Int):=A5 (by omega);have hql:=A8X (s.take i);rw[zw] at hql;have hst:=C2R hc;have hb:=C0S c;have hpU:=A3n (34::qL (s.take i));simp[hc];refine⟨h,?_⟩;refine E5 (fun g=>?_) (fun g=>?_)<;>simp
  ·have g:c=34\/c=92:=by
    rw[ud] at g;exact g.imp (h34 c 34 (by omega)).1 (h34 c 92 (by omega)).1
   have hq:qBj c=[92,c]:=(by unfold qBj; rw[zj g]);rw[hq] at hst;have hex:eB (34::(qL (s.take i)++[92,c]))=eB (34::qL (s.take i))++[.int .u8 92,.int .u8 c.toNat]:=(by rw[←yv,A01]; rfl);refine⟨⟨by omega,by omega⟩,?_⟩;refine hp _ (i+1) h (by omega) ?_;refine yV [(E.n0,E.n0+17409)] (by simp[hi1,hst,hex]) fun hrn=>⟨?_,?_,?_,?_,?_⟩<;>(try simp[hi1,hst,hex]);exact A5I (by rfl)
  have g:¬(c=34\/c=92):=by
   rw[we] at g;rintro (e|e)
   ·exact absurd ((h34 c 34 (by omega)).2 e) (by rw[sv]; exact g.1)
   ·exact absurd ((h34 c 92 (by omega)).2 e) (by rw[sv]; exact g.2)
  refine E5 (fun g2=>?_) (fun g2=>?_)<;>simp
  ·have g2:c=10:=(h34 c 10 (by omega)).1 g2;have hq:qBj c=[92,110]:=(by unfold qBj; rw[zf g,zj g2]);rw[hq] at hst;have hex:eB (34::(qL (s.take i)++[92,110]))=eB (34::qL (s.take i))++[.int .u8 92,.int .u8 110]:=(by rw[←yv,A01]; rfl);refine⟨⟨by omega,by omega⟩,?_⟩;refine hp _ (i+1) h (by omega) ?_;refine yV [(E.n0,E.n0+19457)] (by simp[hi1,hst,hex]) fun hrn=>⟨?_,?_,?_,?_,?_⟩<;>(try simp[hi1,hst,hex]);exact A5I (by rfl)
  have g2:c≠10:=fun e=>absurd ((h34 c 10 (by omega)).2 e) (by rw[sv]; exact g2);refine E5 (fun g3=>?_) (fun g3=>?_)
  ·have g3:c.toNat<32:=(by simp at g3; omega);obtain⟨a,ha⟩:∃a,a=c.toNat / 16:=⟨_,rfl⟩;obtain⟨b,hb0⟩:∃b,b=c.toNat % 16:=⟨_,rfl⟩;have hA:Go.bits .and .u8 (c.toNat:Int) 15=(b:Int):=(by rw[C4C g3,hb0]);have hD:(c.toNat:Int) / 16=(a:Int):=(by omega);have ha16:=B66 (n:=a) (by omega);have hb16:=B66 (n:=b) (by omega);unfold hexT at ha16 hb16;have hq:qBj c=[92,117,48,48,A8z (c.toNat / 16),A8z (c.toNat % 16)]:=(by unfold qBj; rw[zf g,zf g2,zj g3]);rw[←ha,←hb0] at hq;rw[hq] at hst;have hex:eB (34::(qL (s.take i)++[92,117,48,48,A8z a,A8z b]))=eB (34::qL (s.take i))++[.int .u8 92,.int .u8 117,.int .u8 48,.int .u8 48,.int .u8 (A8z a).toNat,.int .u8 (A8z b).toNat]:=(by rw[←yv,A01]; rfl);simp[hA,hD,ha16,hb16];refine⟨by decide,by omega,by omega,⟨by omega,by omega⟩,?_⟩;refine hp _ (i+1) h (by omega) ?_;refine yV [(E.n0,E.n0+28673)] (by simp[hi1,hst,hex]) fun hrn=>⟨?_,?_,?_,?_,?_⟩<;>(try simp[hi1,hst,hex]);exact A5I (by rfl)
  have g3:¬c.toNat<32:=by simp at g3; omega
  simp;have hq:qBj c=[c]:=by unfold qBj; rw[zf g,zf g2,zf g3]
  rw[hq] at hst;have hex:eB (34::(qL (s.take i)++[c]))=eB (34::qL (s.take i))++[.int .u8 c.toNat]:=by rw[←yv,A01]; rfl
  refine⟨⟨by omega,by omega⟩,?_⟩;refine hp _ (i+1) h (by omega) ?_;refine yV [(E.n0,E.n0+23553)] (by simp[hi1,hst,hex]) fun hrn=>⟨?_,?_,?_,?_,?_⟩<;>(try simp[hi1,hst,hex]);exact A5I (by rfl)
 ·have h:¬i<s.length:=zp h;rw[zq (show s.length<=i by omega)];have hql:=A8X s;have hfin:List.take ((qL s).length+1+1) (List.map A5S (eB (34::qL s))++[A5S (.int .u8 34)])=A0b s:=by
   rw[B0o,zq (by simp)];unfold A0b;simp[A5S]
  simp;refine⟨⟨by omega,by omega⟩,fun x hx=>?_,?_⟩
  ·have hx:=xh hx;rcases zo.1 hx with hx|hx
   ·obtain⟨b,rfl⟩:=B0n hx;have:=b.toNat_lt;simp[A4e];try omega
   ·simp at hx; subst hx; decide
  rw[hfin];exact yP hR
mutual
def jS:H6->List UInt8
 | .mk k n t ks l=>if k=2 then Lib.itoa n else if k=3 then A0b t else if k=1 then [110,117,108,108]
  else if k=5 then 123::Lib.join (jM ks l) [44]++[125] else 91::Lib.join (jL l) [44]++[93]
def jL:List H6->List (List UInt8)
 | []=>[]
 | o::r=>jS o::jL r
def jM:List (List UInt8)->List H6->List (List UInt8)
 | _,[]=>[]
 | ks,o::r=>(A0b (ks.headD [])++[58]++jS o)::jM ks.tail r
end
theorem A8Y:∀l:List H6,jL l=l.map jS
 | []=>rfl
 | o::r=>by simp[jL,A8Y r]
theorem C0T:∀(l:List H6) (ks:List (List UInt8)) (i:Nat) (o:H6) (k:List UInt8),l[i]?=some o->ks[i]?=some k->(jM ks l)[i]?=some (A0b k++[58]++jS o)
 | [],ks,i,o,k,h,_=>by simp at h
 | x::r,[],i,o,k,_,h=>by simp at h
 | x::r,y::ks,0,o,k,h1,h2=>by simp at h1 h2; subst h1 h2; simp[jM]
 | x::r,y::ks,i+1,o,k,h1,h2=>by simp at h1 h2; simp[jM]; simpa using C0T r ks i o k h1 h2
theorem B1T:∀(l:List H6) (ks:List (List UInt8)),(jM ks l).length=l.length
 | [],ks=>by simp[jM]
 | x::r,ks=>by simp[jM,B1T r]
theorem C30(o:H6):jS o=if o.kind=2 then Lib.itoa o.n else if o.kind=3 then A0b o.text else if o.kind=1 then [110,117,108,108]
  else if o.kind=5 then 123::Lib.join (jM o.keys o.kids) [44]++[125] else 91::Lib.join (jL o.kids) [44]++[93]:=by cases o; rfl
def jP(o:H6):List (List UInt8):=if o.kind=5 then jM o.keys o.kids else jL o.kids
theorem C4D(o:H6):(jP o).length=o.kids.length:=by
 unfold jP; split
 ·exact B1T _ _
 ·rw[A8Y]; simp
theorem B0F{α:Type}{f:Nat->α->Int}:∀{l:List α} {i:Nat},D9 f l i=0->∀(k:Nat) x,l[k]?=some x->f (i+k) x=0
 | [],i,_,k,x,h=>by simp at h
 | y::l,i,h,k,x,hx=>by
  simp only[D9] at h;split at h
  ·rename_i h0; exact (h0 h).elim
  rename_i h0;cases k with
  | zero=>simp at hx; subst hx; exact zl h0
  | succ k=>rw[show i+(k+1)=i+1+k by omega]; exact B0F h k x (by simpa using hx)
theorem B0G{s:List UInt8}(h:L7 s=0):s.length<=12:=by
 unfold L7 at h;split at h
 ·cases h
 ·omega
structure C31(o:H6):Prop where
 k1:1<=o.kind/\o.kind<=5
 n0:o.kind≠2->o.n=0
 t0:o.kind≠3->o.text=[]
 m0:o.kind≠5->o.keys=[]
 l0:o.kind<4->o.kids=[]
 ni : -999999999<=o.n/\o.n<=999999999
 tl:o.text.length<=40
 ml:o.kind=5->o.keys.length=o.kids.length
 ks:∀k∈o.keys,L7 k=0
 nd:B3E o.keys=0
theorem C5a{o:H6}(h:B1S o=0):C31 o:=by
 unfold B1S at h;split at h
 ·cases h
 rename_i h1;split at h
 ·cases h
 rename_i h2;split at h
 ·cases h
 rename_i h3;split at h
 ·cases h
 rename_i h4;split at h
 ·cases h
 rename_i h5;have hn:∀{p q:Prop},¬(p/\¬q)->p->q:=fun h hp=>zl fun hq=>h ⟨hp,hq⟩;refine⟨by omega,fun g=>?_,fun g=>?_,fun g=>?_,fun g=>?_,by omega,by omega,fun g=>?_,fun k hk=>?_,h⟩
 ·exact zl fun q=>h2 (.inl ⟨g,q⟩)
 ·exact zl fun q=>h2 (.inr (.inl ⟨g,q⟩))
 ·exact zl fun q=>h2 (.inr (.inr (.inl ⟨g,q⟩)))
 ·exact zl fun q=>h2 (.inr (.inr (.inr ⟨g,q⟩)))
 ·exact zl fun q=>h5 ⟨g,q⟩
 ·obtain⟨i,hi⟩:=ye.1 hk;have:=B0F h i k hi;unfold B4p C4B at this;split at this
  ·rename_i h0; exact (h0 this).elim
  ·rename_i h0; exact zl h0
theorem B4q{l:List H6}(h:A4X l=0):∀o∈l,V4 o=0:=by
 induction l with
 | nil=>intro o ho; cases ho
 | cons x r ih =>
  simp only[A4X] at h;split at h
  ·rename_i h0; exact (h0 h).elim
  rename_i h0;intro o ho;rcases zh.1 ho with rfl|ho
  ·exact zl h0
  ·exact ih h o ho
theorem B0H{o:H6}(h:V4 o=0):C31 o/\∀x∈o.kids,V4 x=0:=by
 rw[B3F] at h;split at h
 ·rename_i h0; exact (h0 h).elim
 ·rename_i h0; exact⟨C5a (zl h0),B4q h⟩
theorem B67(xs:List (List UInt8)):(Lib.join xs [44]).length<=(xs.map List.length).sum+xs.length:=by
 have key:∀l:List (List UInt8),Lib.lens l=(l.map List.length).sum:=fun l=>by
  induction l with
  | nil=>rfl
  | cons a r ih=>simp[Lib.lens,ih]
 cases xs with
 | nil=>simp[Lib.join]
 | cons x r=>rw[Lib.join_length,key]; simp; omega
theorem B1U:∀(m:Nat) (o:H6),o.sz<m->V4 o=0->(jS o).length+2<=400*o.sz
 | 0,o,h,_=>by omega
 | m+1,o,h,hc=>by
  obtain⟨h1,h2⟩:=B0H hc;have hz:=B4o o;have hkid:∀x∈o.kids,(jS x).length+2<=400*x.sz:=fun x hx=>B1U m x (by have:=A8W hx; omega) (h2 x hx);rw[C30];split
  ·have:=Lib.itoa_length_le o.n (by have:=h1.ni; omega) (by have:=h1.ni; omega);omega
  split
  ·have:=A8X o.text;have:=h1.tl;simp[A0b]; omega
  split
  ·simp; omega
  have hsum:∀l:List H6,(∀x∈l,(jS x).length+2<=400*x.sz)->((l.map jS).map List.length).sum+2*l.length<=400*A1I l:=fun l=>by
   induction l with
   | nil=>intro _; simp[A1I]
   | cons x r ih =>
    intro hx;have:=ih fun y hy=>hx y (zb _ hy);have:=hx x (za ..);simp only[ym,sm,yd,A1I];omega
  split
  ·have hm:∀(l:List H6) (ks:List (List UInt8)),(∀k∈ks,k.length<=12)->((jM ks l).map List.length).sum<=((l.map jS).map List.length).sum+75*l.length:=fun l=>by
    induction l with
    | nil=>intro ks _; simp[jM]
    | cons x r ih =>
     intro ks hk;have:=ih ks.tail fun k hk'=>hk k (List.mem_of_mem_tail hk');have h0:(ks.headD []).length<=12:=by
      cases ks with
      | nil=>simp
      | cons a b=>exact hk a (za ..)
     have hq:=A8X (ks.headD []);simp only[jM,ym,sm,yd,yl,A0b,rq];omega
   have a1:=hm o.kids o.keys fun k hk=>B0G (h1.ks k hk);have a2:=hsum o.kids hkid;have a3:=B67 (jM o.keys o.kids);rw[B1T] at a3;have a4:=h1.ml (by assumption);simp;omega
  ·have a2:=hsum o.kids hkid;have a3:=B67 (jL o.kids);rw[A8Y] at a3 ⊢;simp at a3 ⊢;simp at a2;omega
theorem B3G{l:List AV}(h:F9 l=true)(n:Nat):F9 (l.take n)=true:=A7A fun i x hx=>by
 rw[zy] at hx;split at hx
 ·exact A93 h hx
 ·cases hx
theorem A65:∀(m:Nat) (o:H6) (id:Nat),o.sz<m->o.sz<=100000000000->V4 o=0->A2 Tryz.prog 61 [eO o] [] id (.str (jS o)) []
 | 0,o,id,hm,_,_=>by omega
 | m+1,o,id,hm,h8,hc=>by
  obtain⟨h1,h2⟩:=B0H hc;have hsz:=B4o o;have hlen:=C0R o.kids;have hJ:=C30 o;have hIt:=fun id=>A2k o.n id (by have:=h1.ni; unfold I64; omega);have hQt:=fun id=>B0E o.text id (by have:=h1.tl; omega);rw[B3D o];refine w61.e.1 fun E hP hR hl hid=>?_;simp[w61];refine E5 (fun g=>?_) (fun g=>?_)<;>simp
  ·have g:o.kind=2:=(by simpa using g);rw[zj g] at hJ;rw[hJ] at hR;(refine yH rfl (hIt _) ?_; simp);exact yP hR
  have g2:o.kind≠2:=by simpa using g
  refine E5 (fun g=>?_) (fun g=>?_)<;>simp
  ·have g:o.kind=3:=(by simpa using g);rw[zf g2,zj g] at hJ;rw[hJ] at hR;(refine yH rfl (hQt _) ?_; simp);exact yP hR
  have g3:o.kind≠3:=by simpa using g
  refine E5 (fun g=>?_) (fun g=>?_)<;>simp
  ·have g:o.kind=1:=(by simpa using g);rw[zf g2,zf g3,zj g] at hJ;rw[hJ] at hR;exact yP hR
  have g1:o.kind≠1:=by simpa using g
  rw[zf g2,zf g3,zf g1] at hJ;have hpl:=C4D o;have hJl:=B1U (o.sz+1) o (wk _) hc;by_cases k5:o.kind=5
  ·rw[zj k5] at hJ;rw[hJ] at hR hJl;have hjl:=B1T o.kids o.keys;have hkk:=h1.ml k5;have hst0:∀i:Nat,(jM o.keys o.kids).take i=if i=0 then [] else (jM o.keys o.kids).take i:=fun i=>by split<;>simp_all
   refine D0 (X:=Nat) (fun i=>⟨[(1,true,.ptr E.n0 0 0),(3,true,.str (if i=0 then [91,93] else [123,125])),(4,true,.bsl (E.n0+1) 0 i),(23,true,.sl (o.kids.map eO)),(24,true,.int .i64 o.kids.length),(25,true,.int .i64 i)],
    [(E.n0,some ⟨[.agg [.int .i64 o.kind,.int .i64 o.n,.str o.text,.sl (o.keys.map .str),.sl (o.kids.map eO)]],.agg [.int .i64 o.kind,.int .i64 o.n,.str o.text,.sl (o.keys.map .str),.sl (o.kids.map eO)],false,false⟩),(E.n0+1,some ⟨((jM o.keys o.kids).map AV.str).take i,.str [],false,false⟩)],2⟩)
    (fun i=>i<=o.kids.length) (fun i=>o.kids.length - i) 0 ?_ (by omega) ?_
   ·refine E4.trans (E4.voidSlot 4 (x:=.nils) (y:=.bsl (E.n0+16384) 0 0) (by simp) .nils (.str [])) ?_;refine yV [(E.n0,E.n0),(E.n0+1,E.n0+16384)] (by simp) fun hrn=>⟨?_,?_,?_,?_,?_⟩<;>(try simp)
   rintro i hi p hp;refine A3 4000 ?_;simp;refine E5 (fun h=>?_) (fun h=>?_)
   ·have h:=zr h;obtain⟨x,hx,hd⟩:=B2 h;have hi1:IntKind.i64.wrap ((i:Int)+1)=((i+1:Nat):Int):=A5 (by omega);have hxm:=zg hx;have hxz:=A8W hxm;have hxl:=B1U (x.sz+1) x (wk _) (h2 x hxm);have ih:=fun id=>A65 m x id (by omega) (by omega) (h2 x hxm);rw[B3D x] at ih;simp[hx,B3D x];refine⟨h,?_⟩;(refine yH rfl (ih _) ?_; simp);obtain⟨k,hk⟩:∃k,o.keys[i]?=some k:=⟨_,zc (by omega)⟩;have hkl:=B0G (h1.ks k (zg hk));have hQk:=fun id=>B0E k id (by omega);have hql:=A8X k;have hjm:=C0T o.kids o.keys i x k hx hk;have hst:((jM o.keys o.kids).map AV.str).take (i+1)=((jM o.keys o.kids).map AV.str).take i++[.str (A0b k++[58]++jS x)]:=O2 (by simp[hjm]);refine A9 (by simp[k5]) ?_;simp[hk];refine⟨by omega,?_⟩;(refine yH rfl (hQk _) ?_; simp);have hqz:(A0b k).length=(qL k).length+2:=(by simp[A0b]);refine⟨by omega,by omega,⟨by omega,by omega,by omega⟩,?_⟩;refine hp _ (i+1) h (by omega) ?_;refine yV [(E.n0,E.n0),(E.n0+1,E.n0+27650)] (by simp[hi1,hst]) fun hrn=>⟨?_,?_,?_,?_,?_⟩<;>(try simp[hi1,hst]);exact C2 rfl (C4 (B3G (Y1 _) _) rfl)
   ·have h:¬i<o.kids.length:=zp h;have hil:i=o.kids.length:=(by omega);have hka:((jM o.keys o.kids).map AV.str).take i=(jM o.keys o.kids).map AV.str:=zq (by simp; omega);have hle:i<=(jM o.keys o.kids).length:=(by omega);have hJo:=fun id=>B5l (jM o.keys o.kids) [44] id (by omega) (by simp at hJl; omega);simp;refine A9 (by simp[k5]) ?_;simp[hka];(refine A2T hP rfl (hJo _) (by simp[hka,hle]<;>rfl) (by simp[hka,hle]) (by simp[hka,hle]<;>rfl) (by simp[hka,hle]) ?_; refine A3 4000 ?_; simp[hka,hle]);refine⟨by simp at hJl; omega,by simp at hJl; omega,?_⟩;exact yP hR
  ·rw[zf k5] at hJ;rw[hJ] at hR hJl;have hjl:(jL o.kids).length=o.kids.length:=(by rw[A8Y]; simp);have hst0:∀i:Nat,(jL o.kids).take i=if i=0 then [] else (jL o.kids).take i:=fun i=>by split<;>simp_all
   refine D0 (X:=Nat) (fun i=>⟨[(1,true,.ptr E.n0 0 0),(3,true,.str ([91,93])),(4,true,.bsl (E.n0+1) 0 i),(23,true,.sl (o.kids.map eO)),(24,true,.int .i64 o.kids.length),(25,true,.int .i64 i)],
    [(E.n0,some ⟨[.agg [.int .i64 o.kind,.int .i64 o.n,.str o.text,.sl (o.keys.map .str),.sl (o.kids.map eO)]],.agg [.int .i64 o.kind,.int .i64 o.n,.str o.text,.sl (o.keys.map .str),.sl (o.kids.map eO)],false,false⟩),(E.n0+1,some ⟨((jL o.kids).map AV.str).take i,.str [],false,false⟩)],2⟩)
    (fun i=>i<=o.kids.length) (fun i=>o.kids.length - i) 0 ?_ (by omega) ?_
   ·refine E4.trans (E4.voidSlot 4 (x:=.nils) (y:=.bsl (E.n0+16384) 0 0) (by simp) .nils (.str [])) ?_;refine yV [(E.n0,E.n0),(E.n0+1,E.n0+16384)] (by simp) fun hrn=>⟨?_,?_,?_,?_,?_⟩<;>(try simp)
   rintro i hi p hp;refine A3 4000 ?_;simp;refine E5 (fun h=>?_) (fun h=>?_)
   ·have h:=zr h;obtain⟨x,hx,hd⟩:=B2 h;have hi1:IntKind.i64.wrap ((i:Int)+1)=((i+1:Nat):Int):=A5 (by omega);have hxm:=zg hx;have hxz:=A8W hxm;have hxl:=B1U (x.sz+1) x (wk _) (h2 x hxm);have ih:=fun id=>A65 m x id (by omega) (by omega) (h2 x hxm);rw[B3D x] at ih;simp[hx,B3D x];refine⟨h,?_⟩;(refine yH rfl (ih _) ?_; simp);have hst:((jL o.kids).map AV.str).take (i+1)=((jL o.kids).map AV.str).take i++[.str (jS x)]:=O2 (by rw[A8Y]; simp[hx]);refine A0 (by simp[k5]) ?_;simp;refine⟨⟨by omega,by omega,by omega⟩,?_⟩;refine hp _ (i+1) h (by omega) ?_;refine yV [(E.n0,E.n0),(E.n0+1,E.n0+16386)] (by simp[hi1,hst]) fun hrn=>⟨?_,?_,?_,?_,?_⟩<;>(try simp[hi1,hst]);exact C2 rfl (C4 (B3G (Y1 _) _) rfl)
   ·have h:¬i<o.kids.length:=zp h;have hil:i=o.kids.length:=(by omega);have hka:((jL o.kids).map AV.str).take i=(jL o.kids).map AV.str:=zq (by simp; omega);have hle:i<=(jL o.kids).length:=(by omega);have hJo:=fun id=>B5l (jL o.kids) [44] id (by omega) (by simp at hJl; omega);simp;refine A0 (by simp[k5]) ?_;simp[hka];(refine A2T hP rfl (hJo _) (by simp[hka,hle]<;>rfl) (by simp[hka,hle]) (by simp[hka,hle]<;>rfl) (by simp[hka,hle]) ?_; refine A3 4000 ?_; simp[hka,hle]);refine⟨by simp at hJl; omega,by simp at hJl; omega,?_⟩;exact yP hR
end Go.Am
namespace Go.Am
open Go Go.Proofs Go.RowKit Go.Shelf
def A66:Go.Shelf.Ren:=⟨fun|137=>287|217=>308|266=>329|n=>n,fun|9=>9|5=>5|3=>3|n=>n,fun|n=>n⟩
theorem B1V:Go.Proofs.Lays.n137 Tryz.prog A66:={ mixed:=by kernel_rfl,f137:=Tryz.func287.trans (congrArg some (by kernel_rfl)),f217:=Tryz.func308.trans (congrArg some (by kernel_rfl)),f266:=Tryz.func329.trans (congrArg some (by kernel_rfl)),t3:=Tryz.underlying3,a3:=Tryz.isAgg3,z3:=Tryz.sizeOf3,v3:=Tryz.zeroValue3,t5:=Tryz.underlying5,a5:=Tryz.isAgg5,z5:=Tryz.sizeOf5,v5:=Tryz.zeroValue5,t9:=Tryz.underlying9,a9:=Tryz.isAgg9,z9:=Tryz.sizeOf9,v9:=Tryz.zeroValue9 }
theorem C2S : (Tryz.f287.name == "runtime.NumGoroutine") = false := by decide
theorem C2T:Tryz.f287.body.isNone=false:=rfl
theorem B7Z:Z8 Tryz.prog 287:=⟨_,Tryz.func287,C2S,C2T⟩
theorem A5J(s:List UInt8)(c:UInt8)(id:Nat):A2 Tryz.prog 287 [.str s,.int .u8 c.toNat] [] id (.int .i64 (Lib.indexByte s c)) []:=by
 refine A5Y B7Z fun C G bx w vs hs hv=>?_;obtain⟨u,v,rfl,hv1,hv2⟩:=A6I hv;cases hv1
 cases hv2
 refine (Any.strings_IndexByte B1V ⟨⟨s⟩⟩ c.toNat w).mono ?_;rintro e w' ⟨h1,rfl⟩;refine⟨_,h1,fun _ _=>?_,Below.refl _ _⟩;simpa using RV.int (G:=_) (w:=_) .i64 (Lib.indexByte s c)
end Go.Am
namespace Go.Am
open Go Go.Proofs Go.RowKit
def m7(t:Tk):AV:=.agg [.int .i64 t.kind,.str t.text,.int .i64 t.n]
def zTk:AV:=.agg [.int .i64 0,.str [],.int .i64 0]
def rB(z:List UInt8)(i:Nat):Bx:=⟨[.agg [.str z,.int .i64 i]],.agg [.str z,.int .i64 0],false,false⟩
theorem P6(z:List UInt8)(i:Nat):rB z i=⟨[.agg [.str z,.int .i64 i]],.agg [.str z,.int .i64 0],false,false⟩:=rfl
def erV(e:Int):AV:=.iface 31 (.int .i64 e)
theorem A2I(e:Int)(id:Nat):Y5 Tryz.prog 250 [.int .i64 e] [] id (.error (erV e)):=by
 refine A38 w250.hf w250.hc w250.hn w250.hr (by simp[Tryz.ntmps250]) fun E hP hR hPn hl hid hB hu=>?_;refine A3 9 ?_;simp[w250];refine B0l (by simp<;>rfl) (by simp) ⟨by simp,hPn _ _ rfl rfl (by simp)⟩
theorem C0U{p:UInt8->Bool}{s:List UInt8}{i:Nat}(h:∀c∈s.take i,p c=true)(hs:∀c,s[i]?=some c->p c=false):s.takeWhile p=s.take i:=by
 conv=>lhs; rw[←yx i s]
 rw[List.takeWhile_append_of_pos h];cases hd:s.drop i with
 | nil=>simp
 | cons c r =>
  have:s[i]?=some c:=by
   have:=congrArg (fun l=>l[0]?) hd;simpa using this
  rw[List.takeWhile_cons_of_neg (by simp[hs c this])]; simp
theorem B68(p:UInt8->Bool)(s:List UInt8):(s.takeWhile p).length<=s.length:=(List.takeWhile_prefix _).length_le
def at2(p:UInt8->Bool)(z:List UInt8)(i:Nat):Nat:=i+((z.drop i).takeWhile p).length
theorem A77(z:List UInt8)(i:Nat)(p:UInt8->Bool)(F:Nat)(J id:Nat)(hi:i<=z.length)(h8:z.length<=1099511627776)(hF:∀(c:UInt8) id,A2 Tryz.prog F [.int .u8 c.toNat] [] id (.bool (p c)) []):
  A2 Tryz.prog 281 [.ptr J 0 0,.fn F []] [(J,rB z i)] id (.str ((z.drop i).takeWhile p)) [(J,some (rB z (at2 p z i)))]:=by
 rw[P6,P6];refine w281.e.1 fun E hP hR hl hid=>?_;simp[w281];have hJ:=hl (J,_) (za ..);simp only at hJ;have J1:=lf hJ;refine D0 (X:=Nat) (fun j=>⟨[(0,true,.ptr J 0 0),(1,true,.fn F []),(5,true,.int .i64 i)],[(J,some (rB z j))],0⟩)
  (fun j=>(i<=j/\j<=z.length)/\∀c∈(z.drop i).take (j - i),p c=true) (fun j=>z.length - j) i ?_ ⟨⟨by omega,by omega⟩,by simp⟩ ?_
 ·refine yV [] (by simp[rB,J1]) fun hrn=>⟨?_,?_,?_,?_,?_⟩<;>(try simp[rB,J1])
 rintro j ⟨⟨hij,hj⟩,hall⟩ q hq;rw[P6];have ending:(∀c,(z.drop i)[j - i]?=some c->p c=false)->(z.drop i).takeWhile p=(z.take j).drop i/\at2 p z i=j:=fun hs=>by
  have h1:=C0U hall hs;have h2:(z.drop i).take (j - i)=(z.take j).drop i:=by rw[ul]
  unfold at2;rw[h1,zw,zx,h2];exact⟨rfl,by omega⟩
 rcases yh j z.length with h|h
 ·obtain⟨c,hc,hd⟩:=B2 h;have hcj:z[j]=c:=by
   rw[zc h] at hc;injection hc
  have hj1:IntKind.i64.wrap ((j:Int)+1)=((j+1:Nat):Int):=A5 (by omega);have hix:(z.drop i)[j - i]?=some c:=by rw[yc,show i+(j - i)=j by omega]; exact hc
  refine A3 4000 ?_;simp[h,hcj,J1];refine B2M hP (by simp) rfl (fun hh=>⟨by simp<;>rfl,hF c _,by simp,by simp⟩) ?_;refine A3 4000 ?_;simp[h,hcj,J1];by_cases hpc:p c=true
  ·refine A9 hpc ?_;simp[J1];refine hq _ (j+1) ⟨⟨by omega,h⟩,fun x hx=>?_⟩ (by omega) ?_
   ·rw[show j+1 - i=j - i+1 by omega,O2 hix] at hx;rcases zo.1 hx with hx|hx
    ·exact hall x hx
    ·obtain rfl:=xq.1 hx; exact hpc
   ·refine yV [] (by simp[rB,hj1,J1]) fun hrn=>⟨?_,?_,?_,?_,?_⟩<;>(try simp[rB,hj1,J1])
  ·have hpc:p c=false:=(by simpa using hpc);obtain⟨e1,e2⟩:=ending fun d hd=>by rw[hix] at hd; injection hd with hd; rw[←hd]; exact hpc
   rw[e1,e2] at hR;refine A0 hpc ?_;simp[J1];refine⟨⟨by omega,by omega⟩,?_⟩;refine yE hR [] (by simp[rB,J1,A4 hid]) fun hrn=>⟨?_,?_,?_,?_,?_,?_⟩<;>(try simp[rB,J1,A4 hid])
 ·obtain⟨e1,e2⟩:=ending fun c hc=>by rw[yc,show i+(j - i)=j by omega,wl (by omega)] at hc; cases hc
  rw[e1,e2] at hR;refine A3 4000 ?_;simp[h,ru.2 h,J1];refine B2M hP (by simp) rfl (v:=.bool false) (rd:=[]) (f:=F) (caps:=[]) (fun hh=>by simp at hh) ?_;refine A3 4000 ?_;simp[h,ru.2 h,J1];refine⟨⟨by omega,by omega⟩,?_⟩;refine yE hR [] (by simp[rB,J1,A4 hid]) fun hrn=>⟨?_,?_,?_,?_,?_,?_⟩<;>(try simp[rB,J1,A4 hid])
theorem A3V(p:UInt8->Bool)(z:List UInt8)(i:Nat):z.drop (at2 p z i)=(z.drop i).dropWhile p:=by
 unfold at2;rw[←tn];have h:=List.takeWhile_append_dropWhile (p:=p) (l:=z.drop i);generalize (z.drop i).takeWhile p=a at h;generalize (z.drop i).dropWhile p=b at h;rw[←h,sg]
theorem A8Z(p:UInt8->Bool){z:List UInt8}{i:Nat}(hi:i<=z.length):i<=at2 p z i/\at2 p z i<=z.length:=by
 have:=B68 p (z.drop i);rw[zx] at this;unfold at2; omega
def atU(z u:List UInt8):Nat:=z.length - u.length
theorem A2J{z:List UInt8}{i:Nat}(hi:i<=z.length):atU z (z.drop i)=i:=by
 unfold atU; rw[zx]; omega
theorem C0V:∀s:List UInt8,blk false s=blk false (s.dropWhile blC)
 | []=>rfl
 | c::r=>by
  cases hc:blC c with
  | true=>rw[wc hc,←C0V r]; simp[blk,hc]
  | false=>rw[sd (by simp[hc])]
def A8a(c:UInt8):Bool:=c != 10
theorem C0W:∀s:List UInt8,blk true s=blk false (s.dropWhile A8a)
 | []=>rfl
 | c::r=>by
  by_cases hc:c=10
  ·subst hc; rfl
  ·have h:A8a c=true:=(by unfold A8a; simp[hc]);rw[wc h,←C0W r];simp[blk,hc]
theorem C2U{p:UInt8->Bool}{s:List UInt8}{c:UInt8}{r:List UInt8}(h:s.dropWhile p=c::r):p c=false:=by
 induction s with
 | nil=>cases h
 | cons d s ih =>
  cases hd:p d with
  | true=>rw[wc hd] at h; exact ih h
  | false=>rw[sd (by simp[hd])] at h; injection h with h1 h2; rw[←h1]; exact hd
theorem u8i(c:UInt8)(n:Nat)(hn:n<256):((c.toNat:Int)==(n:Int))=(c==UInt8.ofNat n):=by
 rw[wa,beq_iff_eq,beq_iff_eq,←UInt8.toNat_inj];simp;omega
theorem B7a(c:UInt8)(id:Nat):A2 Tryz.prog 282 [.int .u8 c.toNat] [] id (.bool (blC c)) []:=by
 have h9:((c.toNat:Int)==9)=(c==9):=u8i c 9 (by decide);have h10:((c.toNat:Int)==10)=(c==10):=u8i c 10 (by decide);have h13:((c.toNat:Int)==13)=(c==13):=u8i c 13 (by decide);have h32:((c.toNat:Int)==32)=(c==32):=u8i c 32 (by decide);have h44:((c.toNat:Int)==44)=(c==44):=u8i c 44 (by decide);refine w282.e.1 fun E hP hR hl hid=>?_;simp[w282];simp only[h9,h10,h13,h32,h44];exact yP hR (h1:=by simp; unfold blC; rfl)
theorem B7b(c:UInt8)(id:Nat):A2 Tryz.prog 283 [.int .u8 c.toNat] [] id (.bool (A8a c)) []:=by
 have h10:((c.toNat:Int)==10)=(c==10):=u8i c 10 (by decide);refine w283.e.1 fun E hP hR hl hid=>?_;simp[w283];exact yP hR (h1:=by simp; unfold A8a; simp only[bne,h10])
def A1J(z:List UInt8)(i:Nat):Nat:=atU z (blk false (z.drop i))
theorem B3H(z:List UInt8)(i:Nat)(J id:Nat)(hi:i<=z.length)(h8:z.length<=1099511627776):
  A2 Tryz.prog 248 [.ptr J 0 0] [(J,rB z i)] id (.tup []) [(J,some (rB z (A1J z i)))]:=by
 have hP1:=fun j id hj=>A77 z j blC 282 J id hj h8 B7a;have hP2:=fun j id hj=>A77 z j A8a 283 J id hj h8 B7b;rw[P6,P6];refine w248.e.1 fun E hP hR hl hid=>?_;simp[w248];have hJ:=hl (J,_) (za ..);simp only at hJ;have J1:=lf hJ;refine D0 (X:=Nat) (fun j=>⟨[(0,true,.ptr J 0 0)],[(J,some (rB z j))],0⟩)
  (fun j=>j<=z.length/\blk false (z.drop j)=blk false (z.drop i)) (fun j=>z.length - j) i ?_ ⟨hi,rfl⟩ ?_
 ·refine yV [] (by simp[rB,J1]) fun hrn=>⟨?_,?_,?_,?_,?_⟩<;>(try simp[rB,J1])
 rintro j ⟨hj,hb⟩ q hq;obtain⟨l1,l2⟩:=A8Z blC hj;have d1:=A3V blC z j;have hp1:=fun id=>hP1 j id hj;have hp2:=fun id=>hP2 (at2 blC z j) id l2;generalize at2 blC z j=k at *;rw[C0V,←d1] at hb;rw[P6,P6] at hp1 hp2;rw[P6];refine A3 4000 ?_;simp[J1];(refine yC rfl (hp1 _) ?_; simp[J1]);rcases yh k z.length with h|h
 ·obtain⟨c,hc,hd⟩:=B2 h;have hck:z[k]=c:=by
   rw[zc h] at hc;injection hc
  have hnb:blC c=false:=C2U (d1.symm.trans hd);have hne:((k:Int)==(z.length:Int))=false:=by rw[beq_eq_false_iff_ne]; omega
  have h35:((c.toNat:Int)==35)=(c==35):=u8i c 35 (by decide);by_cases g:c=35
  ·have l3:=A8Z A8a l2;have d2:=A3V A8a z k;have hlt:k<at2 A8a z k:=by
    unfold at2;rw[hd,se (by rw[g]; rfl)];simp
   have hbm:blk false (z.drop (at2 A8a z k))=blk false (z.drop i):=by
    rw[d2,←hb,hd,wc (by rw[g]; rfl),←C0W,g];rfl
   generalize at2 A8a z k=m at *;refine⟨fun _=>⟨by omega,h⟩,?_⟩;refine A0 (by rw[hne,hc]; simp[bne,h35,g]) ?_;simp[J1];(refine yC rfl (hp2 _) ?_; simp[J1]);refine hq _ m ⟨l3.2,hbm⟩ (by omega) ?_;refine yV [] (by simp[rB,J1]) fun hrn=>⟨?_,?_,?_,?_,?_⟩<;>(try simp[rB,J1])
  ·have e:A1J z i=k:=by
    unfold A1J;rw[←hb,hd,B5r hnb g,←hd,A2J (by omega)]
   rw[e] at hR;refine⟨fun _=>⟨by omega,h⟩,?_⟩;refine A9 (by rw[hc]; simp only[ww,bne,h35]; simp[g]) ?_;simp[J1];refine yE hR [] (by simp[rB,J1,A4 hid]) fun hrn=>⟨?_,?_,?_,?_,?_,?_⟩<;>(try simp[rB,J1,A4 hid])
 ·have hk:k=z.length:=by omega
  have e:A1J z i=k:=by
   unfold A1J;rw[←hb,zn h,hk];unfold atU blk; simp
  rw[e] at hR;subst hk;simp[J1];refine yE hR [] (by simp[rB,J1,A4 hid]) fun hrn=>⟨?_,?_,?_,?_,?_,?_⟩<;>(try simp[rB,J1,A4 hid])
def B7c(J:Nat)(z:List UInt8):Except Int (Tk×List UInt8)->Except AV (AV×List (Nat×Option Bx))
 | .ok p=>.ok (m7 p.1,[(J,some (rB z (atU z p.2)))])
 | .error e=>.error (erV e)
theorem A78{J:Nat}{z:List UInt8}{o:Except Int (Tk×List UInt8)}{t:Tk}{u:List UInt8}(h:o = .ok (t,u)):B7c J z o = .ok (m7 t,[(J,some (rB z (atU z u)))]):=by rw[h]; rfl
theorem Z2{J:Nat}{z:List UInt8}{o:Except Int (Tk×List UInt8)}{e:Int}(h:o = .error e):B7c J z o = .error (erV e):=by rw[h]; rfl
def A2K(c:UInt8)(r:List UInt8):Except Int (Tk×List UInt8):=match A0g (A0x c r) with
 | none=>.error 1
 | some n=>.ok (⟨2,[],n⟩,r.dropWhile c8)
theorem B3I{a b:List UInt8}{n:Int}(hg:¬(a=b/\-999999999<=n/\n<=999999999)):(!a==b||(!decide (-999999999<=n)||!decide (n<=999999999)))=true:=by
 by_cases h1:a=b
 ·have h2:¬(-999999999<=n/\n<=999999999):=fun h=>hg ⟨h1,h⟩;simp;omega
 ·simp[h1]
theorem B3J{w:List UInt8}{n:Int}(h:Lib.atoiAll w = .ok n):A0g w=if Lib.itoa n=w/\-999999999<=n/\n<=999999999 then some n else none:=by
 split
 ·rename_i hg;rw[←hg.1]; exact B4l hg.2
 ·rename_i hg;cases hi:A0g w with
  | none=>rfl
  | some m =>
   obtain⟨h1,h2⟩:=A8N hi;have h3:=B08 h2;rw[h1,h] at h3;injection h3 with h3
   subst h3;exact (hg ⟨h1,h2⟩).elim
theorem A5K{w:List UInt8}(h:∀n,Lib.atoiAll w≠.ok n):A0g w=none:=by
 cases hi:A0g w with
 | none=>rfl
 | some m =>
  obtain⟨h1,h2⟩:=A8N hi;have h3:=B08 h2;rw[h1] at h3;exact (h m h3).elim
theorem B7d(c:UInt8)(id:Nat):A2 Tryz.prog 233 [.int .u8 c.toNat] [] id (.bool (c8 c)) []:=A4w c id
theorem B7e(z:List UInt8)(i:Nat)(c:UInt8)(r:List UInt8)(J id:Nat)(hi:i<=z.length)(hd:z.drop i=c::r)(hc:c8 c=true\/c=45)(h8:z.length<=1099511627776):
  Y5 Tryz.prog 285 [.ptr J 0 0] [(J,rB z i)] id (B7c J z (A2K c r)):=by
 have hf:=fun id=>A2I 1 id;have hP:=fun j id hj=>A77 z j c8 233 J id hj h8 B7d;have hlt:i<z.length:=by
  have:=congrArg List.length hd;rw[zx,yd] at this; omega
 have hcz:z[i]?=some c:=by
  have:=congrArg (fun l=>l[0]?) hd;simpa using this
 have hci:z[i]=c:=by
  rw[zc hlt] at hcz;injection hcz
 have hd1:z.drop (i+1)=r:=by
  rw[←tn,hd]; rfl
 have h45:((c.toNat:Int)==45)=(c==45):=u8i c 45 (by decide);have hlen:(A0x c r).length<=281474976710656:=by
  have h1:=B68 c8 r;have h2:=congrArg List.length hd;rw[zx,yd] at h2;unfold A0x;simp; omega
 have tail:∀(j k:Nat) (pre:List UInt8),j=0->True:=fun _ _ _ _=>trivial;by_cases hs:c=45
 ·have hp:=fun id=>hP (i+1) id (by omega);rw[hd1] at hp;have e2:at2 c8 z (i+1)=atU z (r.dropWhile c8):=by
   have h1:=A3V c8 z (i+1);rw[hd1] at h1;rw[←h1,A2J (A8Z c8 (by omega)).2]
  rw[e2] at hp;have hW:A0x c r=45::r.takeWhile c8:=by rw[hs]; rfl
  have hl1:1+(r.takeWhile c8).length<=9223372036854775807:=by rw[hW,yd] at hlen; omega
  have hi1:IntKind.i64.wrap ((i:Int)+1)=((i+1:Nat):Int):=A5 (by omega);rw[P6,P6] at hp;rw[P6];rcases hat:Lib.atoiAll (A0x c r) with n|_|_
  ·have hAt:=fun id=>B5m (A0x c r) n id hlen hat;have hb:=Lib.atoiAll_bounds hat;have hI:=fun id=>A2k n id (by unfold I64; omega);have hL:=fun id=>S9 n id;have hN:=B3J hat;refine w285.x.1 fun E hP hR hPn hl hid hB hu=>?_;simp[w285];have hJ:=hl (J,_) (za ..);simp only at hJ;have J1:=lf hJ;simp[hlt,hci,J1];refine A9 (by rw[h45,hs]; rfl) ?_;simp[J1];rw[hi1];(refine yC rfl (hp _) ?_; simp[J1]);refine⟨hl1,?_⟩;rw[←hW];(refine yC rfl (hAt _) ?_; simp[J1]);(refine I3 hP (by simp[J1]) rfl (fun hc=>⟨hI _,by revert hc; simp[J1]; try grind,by simp[J1]⟩) ?_; refine A3 4000 ?_; simp[J1]);(refine I3 hP (by simp[J1]) rfl (fun hc=>⟨hL _,by revert hc; simp[J1]; try grind,by simp[J1]⟩) ?_; refine A3 4000 ?_; simp[J1]);by_cases hg:Lib.itoa n=A0x c r/\-999999999<=n/\n<=999999999
   ·have e:A2K c r = .ok (⟨2,[],n⟩,r.dropWhile c8):=(by unfold A2K; rw[hN,zj hg]);refine A0 (by simp[hg.1,hg.2.1,hg.2.2]) ?_;simp[J1];have hrn:H5 []:=(by simp[rB,m7,J1,A4 hid]);refine hR _ _ _ (A78 e) ?_;refine E8 (by simp[rB,m7,J1,A4 hid]<;>rfl) [] hrn ⟨?_,?_,?_,?_,?_,?_⟩<;>(try simp[rB,m7,J1,A4 hid])
   ·have e:A2K c r = .error 1:=(by unfold A2K; rw[hN,zf hg]);refine A9 (B3I hg) ?_;simp[J1];refine D5 hP rfl (hf _) (by simp[J1]) (by simp[J1]<;>rfl) (fun pv hpv=>⟨by simp[J1],by injection hpv with hpv; subst hpv; exact hPn _ _ (Z2 e) rfl (by simp[J1])⟩) (fun v wr h=>by cases h)
  ·have hN:A0g (A0x c r)=none:=A5K fun n h=>by rw[hat] at h; cases h
   have e:A2K c r = .error 1:=(by unfold A2K; rw[hN]);have hAt:=fun id=>B34 (A0x c r) id hlen hat (fun n h=>by cases h) (fun h=>by cases h);have hI:=fun id=>A2k 0 id (by unfold I64; omega);have hL:=fun id=>S9 0 id;unfold A4V at hAt;refine w285.x.1 fun E hP hR hPn hl hid hB hu=>?_;simp[w285];have hJ:=hl (J,_) (za ..);simp only at hJ;have J1:=lf hJ;simp[hlt,hci,J1];refine A9 (by rw[h45,hs]; rfl) ?_;simp[J1];rw[hi1];(refine yC rfl (hp _) ?_; simp[J1]);refine⟨hl1,?_⟩;rw[←hW];(refine yC rfl (hAt _) ?_; simp[J1]);(refine I3 hP (by simp[J1]) rfl (fun hc=>⟨hI _,by revert hc; simp[J1]; try grind,by simp[J1]⟩) ?_; refine A3 4000 ?_; simp[J1]);(refine I3 hP (by simp[J1]) rfl (fun hc=>⟨hL _,by revert hc; simp[J1]; try grind,by simp[J1]⟩) ?_; refine A3 4000 ?_; simp[J1]);refine D5 hP rfl (hf _) (by simp[J1]) (by simp[J1]<;>rfl) (fun pv hpv=>⟨by simp[J1],by injection hpv with hpv; subst hpv; exact hPn _ _ (Z2 e) rfl (by simp[J1])⟩) (fun v wr h=>by cases h)
  ·have hN:A0g (A0x c r)=none:=A5K fun n h=>by rw[hat] at h; cases h
   have e:A2K c r = .error 1:=(by unfold A2K; rw[hN]);have hAt:=fun id=>B35 (A0x c r) id hlen hat;have hb:=Lib.atoiSat_bounds (A0x c r);generalize Lib.atoiSat (A0x c r)=q at hAt hb;have hI:=fun id=>A2k q id (by unfold I64; omega);have hL:=fun id=>S9 q id;unfold A4V at hAt;refine w285.x.1 fun E hP hR hPn hl hid hB hu=>?_;simp[w285];have hJ:=hl (J,_) (za ..);simp only at hJ;have J1:=lf hJ;simp[hlt,hci,J1];refine A9 (by rw[h45,hs]; rfl) ?_;simp[J1];rw[hi1];(refine yC rfl (hp _) ?_; simp[J1]);refine⟨hl1,?_⟩;rw[←hW];(refine yC rfl (hAt _) ?_; simp[J1]);(refine I3 hP (by simp[J1]) rfl (fun hc=>⟨hI _,by revert hc; simp[J1]; try grind,by simp[J1]⟩) ?_; refine A3 4000 ?_; simp[J1]);(refine I3 hP (by simp[J1]) rfl (fun hc=>⟨hL _,by revert hc; simp[J1]; try grind,by simp[J1]⟩) ?_; refine A3 4000 ?_; simp[J1]);refine D5 hP rfl (hf _) (by simp[J1]) (by simp[J1]<;>rfl) (fun pv hpv=>⟨by simp[J1],by injection hpv with hpv; subst hpv; exact hPn _ _ (Z2 e) rfl (by simp[J1])⟩) (fun v wr h=>by cases h)
 ·have hg:c8 c=true:=by rcases hc with h|h; exact h; exact (hs h).elim
  have hp:=fun id=>hP i id hi;rw[hd,se hg] at hp;have e2:at2 c8 z i=atU z (r.dropWhile c8):=by
   have h1:=A3V c8 z i;rw[hd,wc hg] at h1;rw[←h1,A2J (A8Z c8 hi).2]
  rw[e2] at hp;have hW:A0x c r=c::r.takeWhile c8:=rfl;rw[←hW] at hp;rw[P6,P6] at hp;rw[P6];rcases hat:Lib.atoiAll (A0x c r) with n|_|_
  ·have hAt:=fun id=>B5m (A0x c r) n id hlen hat;have hb:=Lib.atoiAll_bounds hat;have hI:=fun id=>A2k n id (by unfold I64; omega);have hL:=fun id=>S9 n id;have hN:=B3J hat;refine w285.x.1 fun E hP hR hPn hl hid hB hu=>?_;simp[w285];have hJ:=hl (J,_) (za ..);simp only at hJ;have J1:=lf hJ;simp[hlt,hci,J1];refine A0 (by rw[h45]; simpa using hs) ?_;simp[J1];(refine yC rfl (hp _) ?_; simp[J1]);refine⟨by omega,?_⟩;(refine yC rfl (hAt _) ?_; simp[J1]);(refine I3 hP (by simp[J1]) rfl (fun hc=>⟨hI _,by revert hc; simp[J1]; try grind,by simp[J1]⟩) ?_; refine A3 4000 ?_; simp[J1]);(refine I3 hP (by simp[J1]) rfl (fun hc=>⟨hL _,by revert hc; simp[J1]; try grind,by simp[J1]⟩) ?_; refine A3 4000 ?_; simp[J1]);by_cases hg:Lib.itoa n=A0x c r/\-999999999<=n/\n<=999999999
   ·have e:A2K c r = .ok (⟨2,[],n⟩,r.dropWhile c8):=(by unfold A2K; rw[hN,zj hg]);refine A0 (by simp[hg.1,hg.2.1,hg.2.2]) ?_;simp[J1];have hrn:H5 []:=(by simp[rB,m7,J1,A4 hid]);refine hR _ _ _ (A78 e) ?_;refine E8 (by simp[rB,m7,J1,A4 hid]<;>rfl) [] hrn ⟨?_,?_,?_,?_,?_,?_⟩<;>(try simp[rB,m7,J1,A4 hid])
   ·have e:A2K c r = .error 1:=(by unfold A2K; rw[hN,zf hg]);refine A9 (B3I hg) ?_;simp[J1];refine D5 hP rfl (hf _) (by simp[J1]) (by simp[J1]<;>rfl) (fun pv hpv=>⟨by simp[J1],by injection hpv with hpv; subst hpv; exact hPn _ _ (Z2 e) rfl (by simp[J1])⟩) (fun v wr h=>by cases h)
  ·have hN:A0g (A0x c r)=none:=A5K fun n h=>by rw[hat] at h; cases h
   have e:A2K c r = .error 1:=(by unfold A2K; rw[hN]);have hAt:=fun id=>B34 (A0x c r) id hlen hat (fun n h=>by cases h) (fun h=>by cases h);have hI:=fun id=>A2k 0 id (by unfold I64; omega);have hL:=fun id=>S9 0 id;unfold A4V at hAt;refine w285.x.1 fun E hP hR hPn hl hid hB hu=>?_;simp[w285];have hJ:=hl (J,_) (za ..);simp only at hJ;have J1:=lf hJ;simp[hlt,hci,J1];refine A0 (by rw[h45]; simpa using hs) ?_;simp[J1];(refine yC rfl (hp _) ?_; simp[J1]);refine⟨by omega,?_⟩;(refine yC rfl (hAt _) ?_; simp[J1]);(refine I3 hP (by simp[J1]) rfl (fun hc=>⟨hI _,by revert hc; simp[J1]; try grind,by simp[J1]⟩) ?_; refine A3 4000 ?_; simp[J1]);(refine I3 hP (by simp[J1]) rfl (fun hc=>⟨hL _,by revert hc; simp[J1]; try grind,by simp[J1]⟩) ?_; refine A3 4000 ?_; simp[J1]);refine D5 hP rfl (hf _) (by simp[J1]) (by simp[J1]<;>rfl) (fun pv hpv=>⟨by simp[J1],by injection hpv with hpv; subst hpv; exact hPn _ _ (Z2 e) rfl (by simp[J1])⟩) (fun v wr h=>by cases h)
  ·have hN:A0g (A0x c r)=none:=A5K fun n h=>by rw[hat] at h; cases h
   have e:A2K c r = .error 1:=(by unfold A2K; rw[hN]);have hAt:=fun id=>B35 (A0x c r) id hlen hat;have hb:=Lib.atoiSat_bounds (A0x c r);generalize Lib.atoiSat (A0x c r)=q at hAt hb;have hI:=fun id=>A2k q id (by unfold I64; omega);have hL:=fun id=>S9 q id;unfold A4V at hAt;refine w285.x.1 fun E hP hR hPn hl hid hB hu=>?_;simp[w285];have hJ:=hl (J,_) (za ..);simp only at hJ;have J1:=lf hJ;simp[hlt,hci,J1];refine A0 (by rw[h45]; simpa using hs) ?_;simp[J1];(refine yC rfl (hp _) ?_; simp[J1]);refine⟨by omega,?_⟩;(refine yC rfl (hAt _) ?_; simp[J1]);(refine I3 hP (by simp[J1]) rfl (fun hc=>⟨hI _,by revert hc; simp[J1]; try grind,by simp[J1]⟩) ?_; refine A3 4000 ?_; simp[J1]);(refine I3 hP (by simp[J1]) rfl (fun hc=>⟨hL _,by revert hc; simp[J1]; try grind,by simp[J1]⟩) ?_; refine A3 4000 ?_; simp[J1]);refine D5 hP rfl (hf _) (by simp[J1]) (by simp[J1]<;>rfl) (fun pv hpv=>⟨by simp[J1],by injection hpv with hpv; subst hpv; exact hPn _ _ (Z2 e) rfl (by simp[J1])⟩) (fun v wr h=>by cases h)
theorem B69{R:Rn}{S:Nat->Prop}{l:List UInt8}{r:List AV}(h:F9 r=true):N8 R S (eB l++r) (eB l++r):=C2 rfl (C4 (A3n l) h)
theorem C4E{d:UInt8}(h:d=34\/d=92\/d=110):∃(n:Nat) (e:UInt8),Lib.indexByte [34,92,110] d=(n:Int)/\n<3/\([34,92,10]:List UInt8)[n]?=some e/\∀acc r2,pTq true acc (d::r2)=pTq false (acc++[e]) r2:=by
 rcases h with rfl|rfl|rfl
 ·exact⟨0,34,by decide,by decide,rfl,fun acc r2=>by simp[pTq]⟩
 ·exact⟨1,92,by decide,by decide,rfl,fun acc r2=>by simp[pTq]⟩
 ·exact⟨2,10,by decide,by decide,rfl,fun acc r2=>by simp[pTq]⟩
theorem C4F{d:UInt8}(h:¬(d=34\/d=92\/d=110)):Lib.indexByte [34,92,110] d = -1/\∀acc r2,pTq true acc (d::r2)=none:=by
 have h1:d≠34:=fun q=>h (.inl q);have h2:d≠92:=fun q=>h (.inr (.inl q));have h3:d≠110:=fun q=>h (.inr (.inr q));refine⟨?_,fun acc r2=>by simp[pTq,h1,h2,h3]⟩;simp[Lib.indexByte,zt h1,zt h2,zt h3]
theorem B6A{J:Nat}{z:List UInt8}{o:Except Int (Tk×List UInt8)}{t:Tk}{u:List UInt8}{i:Nat}(h:o = .ok (t,u))(hi:atU z u=i):B7c J z o = .ok (m7 t,[(J,some (rB z i))]):=by rw[A78 h,hi]
def A0h(r:List UInt8):Except Int (Tk×List UInt8):=match pTq false [] r with
 | none=>.error 1
 | some p=>if 40<p.1.length then .error 2 else .ok (⟨3,p.1,0⟩,p.2)
theorem C0X(z:List UInt8)(i:Nat)(r:List UInt8)(J id:Nat)(hi:i<z.length)(hd0:z.drop (i+1)=r)(h8:z.length<=1099511627776):
  Y5 Tryz.prog 286 [.ptr J 0 0] [(J,rB z i)] id (B7c J z (A0h r)):=by
 have hf:=fun id=>A2I 1 id;have hf2:=fun id=>A2I 2 id;have hi1:IntKind.i64.wrap ((i:Int)+1)=((i+1:Nat):Int):=A5 (by omega);rw[P6];refine w286.x.1 fun E hP hR hPn hl hid hB hu=>?_;simp[w286];have hJ:=hl (J,_) (za ..);simp only at hJ;have J1:=lf hJ;simp[J1];refine D0 (X:=List UInt8×Nat) (fun q=>⟨[(0,true,.ptr J 0 0),(2,true,.ptr E.n0 0 0),(3,true,.bsl (E.n0+1) 0 q.1.length)],[(J,some (rB z q.2)),(E.n0,some ⟨[.agg [.int .i64 0,.str [],.int .i64 0]],.agg [.int .i64 0,.str [],.int .i64 0],false,false⟩),(E.n0+1,some ⟨eB q.1,.int .u8 0,false,false⟩)],2⟩)
  (fun q=>pTq false q.1 (z.drop q.2)=pTq false [] r/\q.1.length<=q.2/\q.2<=z.length) (fun q=>z.length - q.2) ([],i+1) ?_ ⟨by rw[hd0],by simp,by omega⟩ ?_
 ·refine E4.trans (E4.voidSlot 3 (x:=.nils) (y:=.bsl (E.n0+10240) 0 0) (by simp) .nils (.int .u8 0)) ?_;have hi0:eB []=[]:=rfl;refine yV [(E.n0,E.n0),(E.n0+1,E.n0+10240)] (by simp[hi0,hi1,rB,zTk,J1]) fun hrn=>⟨?_,?_,?_,?_,?_⟩<;>(try simp[hi0,hi1,rB,zTk,J1])
 rintro⟨acc,j⟩ ⟨hx,hlen,hj⟩ p hp;simp only at hx hlen hj;rw[P6];rcases yh j z.length with h|h
 rotate_left
 ·have e:A0h r = .error 1:=by
   unfold A0h;rw[←hx,zn h];rfl
  have hjz:j=z.length:=by omega
  subst hjz;refine A3 4000 ?_;simp[J1];refine D5 hP rfl (hf _) (by simp[J1]) (by simp[J1]<;>rfl) (fun pv hpv=>⟨by simp[J1],by injection hpv with hpv; subst hpv; exact hPn _ _ (Z2 e) rfl (by simp[J1])⟩) (fun v wr h=>by cases h)
 obtain⟨c,hc,hd⟩:=B2 h;have hcj:z[j]=c:=by
  rw[zc h] at hc;injection hc
 have h10:((c.toNat:Int)==10)=(c==10):=u8i c 10 (by decide);have h34:((c.toNat:Int)==34)=(c==34):=u8i c 34 (by decide);have h92:((c.toNat:Int)==92)=(c==92):=u8i c 92 (by decide);have hne:((j:Int)==(z.length:Int))=false:=by rw[beq_eq_false_iff_ne]; omega
 have hj1:IntKind.i64.wrap ((j:Int)+1)=((j+1:Nat):Int):=A5 (by omega);have hc8:=c.toNat_lt;rw[hd] at hx;by_cases g10:c=10
 ·have e:A0h r = .error 1:=by
   unfold A0h;rw[←hx,g10];rfl
  refine A3 4000 ?_;simp[hcj,hne,h,J1];refine A9 (by rw[h10,g10]; rfl) ?_;simp[J1];refine D5 hP rfl (hf _) (by simp[J1]) (by simp[J1]<;>rfl) (fun pv hpv=>⟨by simp[J1],by injection hpv with hpv; subst hpv; exact hPn _ _ (Z2 e) rfl (by simp[J1])⟩) (fun v wr h=>by cases h)
 by_cases g34:c=34
 ·have hp2:pTq false [] r=some (acc,z.drop (j+1)):=by
   rw[←hx,g34];rfl
  have hju:j+1=atU z (z.drop (j+1)):=(A2J (by omega)).symm;refine A3 4000 ?_;simp[hcj,hne,h,J1];refine A0 (by rw[h10]; simpa using g10) ?_;simp[hcj,h,J1];refine A9 (by rw[h34,g34]; rfl) ?_;simp[J1];rw[hj1];by_cases g40:40<acc.length
  ·have e:A0h r = .error 2:=by
    unfold A0h;rw[hp2];simp only;rw[zj g40]
   refine A9 (by simp; omega) ?_;simp[J1];refine D5 hP rfl (hf2 _) (by simp[J1]) (by simp[J1]<;>rfl) (fun pv hpv=>⟨by simp[J1],by injection hpv with hpv; subst hpv; exact hPn _ _ (Z2 e) rfl (by simp[J1])⟩) (fun v wr h=>by cases h)
  ·have e:A0h r = .ok (⟨3,acc,0⟩,z.drop (j+1)):=by
    unfold A0h;rw[hp2];simp only;rw[zf g40]
   refine A0 (by simp; omega) ?_;simp[J1];refine⟨fun x hx=>by obtain⟨b,rfl⟩:=B0n hx; have:=b.toNat_lt; simp[A4e]; try omega,?_⟩;rw[B0o];have hrn:H5 []:=(by simp[rB,m7,J1,A4 hid]);refine hR _ _ _ (B6A e hju.symm) ?_;refine E8 (by simp[rB,m7,J1,A4 hid]<;>rfl) [] hrn ⟨?_,?_,?_,?_,?_,?_⟩<;>(try simp[rB,m7,J1,A4 hid])
 by_cases g92:c=92
 ·have hx2:pTq true acc (z.drop (j+1))=pTq false [] r:=by
   rw[←hx,g92];rfl
  rcases yh (j+1) z.length with h2|h2
  rotate_left
  ·have e:A0h r = .error 1:=by
    unfold A0h;rw[←hx2,zn h2];rfl
   have hlt2:(decide (((j+1:Nat):Int)<(z.length:Int)))=false:=(by simp; omega);refine A3 4000 ?_;simp[hcj,hne,h,J1];refine A0 (by rw[h10]; simpa using g10) ?_;simp[hcj,h,J1];refine A0 (by rw[h34]; simpa using g34) ?_;simp[J1];refine A9 (by rw[h92,g92]; rfl) ?_;simp[J1];rw[hj1];refine A0 hlt2 ?_;simp[J1];refine D5 hP rfl (hf _) (by simp[J1]) (by simp[J1]<;>rfl) (fun pv hpv=>⟨by simp[J1],by injection hpv with hpv; subst hpv; exact hPn _ _ (Z2 e) rfl (by simp[J1])⟩) (fun v wr h=>by cases h)
  obtain⟨d,hdc,hdd⟩:=B2 h2;have hdj:z[j+1]=d:=by
   rw[zc h2] at hdc;injection hdc
  have hlt2:(decide (((j+1:Nat):Int)<(z.length:Int)))=true:=by simp; omega
  have hX:=fun id=>A5J [34,92,110] d id;rw[hdd] at hx2;by_cases gd:d=34\/d=92\/d=110
  ·obtain⟨n,e,q1,q2,q3,q4⟩:=C4E gd;rw[q1] at hX;rw[q4] at hx2;refine A3 4000 ?_;simp[hcj,hne,h,J1];refine A0 (by rw[h10]; simpa using g10) ?_;simp[hcj,h,J1];refine A0 (by rw[h34]; simpa using g34) ?_;simp[J1];refine A9 (by rw[h92,g92]; rfl) ?_;simp[J1];rw[hj1];refine A9 hlt2 ?_;simp[hdj,h2,J1];refine⟨by omega,?_⟩;(refine yC rfl (hX _) ?_; simp[J1]);refine A0 (by simp) ?_;simp[q3,J1];refine⟨q2,⟨by omega,by omega⟩,?_⟩;have hj2:IntKind.i64.wrap ((j:Int)+1+1)=((j+2:Nat):Int):=(by rw[show (j:Int)+1+1=((j+2:Nat):Int) by omega]; exact A5 (by omega));rw[hj2];refine hp _ (acc++[e],j+2) ⟨hx2,by simp; omega,by omega⟩ (by simp; omega) ?_;have hex:eB (acc++[e])=eB acc++[.int .u8 e.toNat]:=(by rw[A01]; rfl);refine yV [(E.n0,E.n0),(E.n0+1,E.n0+75778)] (by simp[hex,rB,J1]) fun hrn=>⟨?_,?_,?_,?_,?_⟩<;>(try simp[hex,rB,J1]);exact B69 (by rfl)
  ·obtain⟨q1,q2⟩:=C4F gd;rw[q1] at hX;rw[q2] at hx2;have e:A0h r = .error 1:=by
    unfold A0h;rw[←hx2]
   refine A3 4000 ?_;simp[hcj,hne,h,J1];refine A0 (by rw[h10]; simpa using g10) ?_;simp[hcj,h,J1];refine A0 (by rw[h34]; simpa using g34) ?_;simp[J1];refine A9 (by rw[h92,g92]; rfl) ?_;simp[J1];rw[hj1];refine A9 hlt2 ?_;simp[hdj,h2,J1];refine⟨by omega,?_⟩;(refine yC rfl (hX _) ?_; simp[J1]);refine D5 hP rfl (hf _) (by simp[J1]) (by simp[J1]<;>rfl) (fun pv hpv=>⟨by simp[J1],by injection hpv with hpv; subst hpv; exact hPn _ _ (Z2 e) rfl (by simp[J1])⟩) (fun v wr h=>by cases h)
 ·have hx1:pTq false (acc++[c]) (z.drop (j+1))=pTq false [] r:=by
   rw[←hx];simp only[pTq];rw[zf g10,zf g34,zf g92]
  refine A3 4000 ?_;simp[hcj,hne,h,J1];refine A0 (by rw[h10]; simpa using g10) ?_;simp[hcj,h,J1];refine A0 (by rw[h34]; simpa using g34) ?_;simp[J1];refine A0 (by rw[h92]; simpa using g92) ?_;simp[J1];refine⟨⟨by omega,by omega⟩,?_⟩;rw[hj1];refine hp _ (acc++[c],j+1) ⟨hx1,by simp; omega,h⟩ (by simp; omega) ?_;have hex:eB (acc++[c])=eB acc++[.int .u8 c.toNat]:=by rw[A01]; rfl
  refine yV [(E.n0,E.n0),(E.n0+1,E.n0+39938)] (by simp[hex,rB,J1]) fun hrn=>⟨?_,?_,?_,?_,?_⟩<;>(try simp[hex,rB,J1]);exact B69 (by rfl)
theorem B3K(c:UInt8)(id:Nat):A2 Tryz.prog 284 [.int .u8 c.toNat] [] id (.bool (anC c)) []:=by
 have h1:=fun id=>A5g c id;have h2:=fun id=>A4w c id;refine w284.e.1 fun E hP hR hl hid=>?_;simp[w284];(refine yH rfl (h1 _) ?_; simp);(refine yG rfl (h2 _) ?_; simp);exact yP hR (h1:=by simp; unfold anC; rfl)
theorem C0Y{c:UInt8}{r:List UInt8}(h1:A6f c=false)(h2:c8 c=true\/c=45):A0Y c r=A2K c r:=by
 unfold A0Y A2K;rw[zf (by simp[h1]),zj h2];all_goals rfl
theorem B7f{c:UInt8}{r:List UInt8}(h:c=34):A0Y c r=A0h r:=by
 subst h;unfold A0Y A0h;rw[zf (by decide),zf (by decide),zj rfl];all_goals rfl
theorem sgX(c:UInt8):decide (0<=Lib.indexByte [123,125,40,41,58,91,93] c)=sgC c:=by
 by_cases h:sgC c=true
 ·rw[h];have h:c=123\/c=125\/c=40\/c=41\/c=58\/c=91\/c=93:=by simpa [sgC] using h
  rcases h with rfl|rfl|rfl|rfl|rfl|rfl|rfl<;>decide
 ·have h2:¬(c=123\/c=125\/c=40\/c=41\/c=58\/c=91\/c=93):=by simpa [sgC] using h
  have h:sgC c=false:=by simpa using h
  simp only[not_or] at h2;obtain⟨a,b,d,e,f,g,i⟩:=h2;rw[h];simp[Lib.indexByte,zt a,zt b,zt d,zt e,zt f,zt g,zt i]
theorem B3L(z:List UInt8)(i:Nat)(c:UInt8)(r:List UInt8)(J id:Nat)(hi:i<=z.length)(hd:z.drop i=c::r)(h8:z.length<=1099511627776):
  Y5 Tryz.prog 249 [.ptr J 0 0] [(J,rB z i)] id (B7c J z (A0Y c r)):=by
 have hf:=fun id=>A2I 1 id;have hlt:i<z.length:=by
  have:=congrArg List.length hd;rw[zx,yd] at this; omega
 have hcz:z[i]?=some c:=by
  have:=congrArg (fun l=>l[0]?) hd;simpa using this
 have hci:z[i]=c:=by
  rw[zc hlt] at hcz;injection hcz
 have hd1:z.drop (i+1)=r:=by
  rw[←tn,hd]; rfl
 have hi1:IntKind.i64.wrap ((i:Int)+1)=((i+1:Nat):Int):=A5 (by omega);have hc8:=c.toNat_lt;have h45:((c.toNat:Int)==45)=(c==45):=u8i c 45 (by decide);have h34:((c.toNat:Int)==34)=(c==34):=u8i c 34 (by decide);have hLt:=fun id=>A5g c id;have hDg:=fun id=>A4w c id;by_cases g1:A6f c=true
 ·have hp:=fun id=>A77 z i anC 284 J id hi h8 B3K;have e2:at2 anC z i=atU z ((c::r).dropWhile anC):=by
   have h1:=A3V anC z i;rw[hd] at h1;rw[←h1,A2J (A8Z anC hi).2]
  rw[e2,hd] at hp;have hN:=fun id=>A3r ((c::r).takeWhile anC) id;rw[g1] at hLt;have hpt:A0Y c r=if L7 ((c::r).takeWhile anC)=0 then .ok (⟨1,(c::r).takeWhile anC,0⟩,(c::r).dropWhile anC) else .error (L7 ((c::r).takeWhile anC)):=by
   unfold A0Y; rw[zj g1]
  generalize (c::r).takeWhile anC=w at *;generalize (c::r).dropWhile anC=u at *;rw[P6,P6] at hp;rw[P6];by_cases g2:L7 w=0
  ·have e:A0Y c r = .ok (⟨1,w,0⟩,u):=(by rw[hpt,zj g2]);rw[g2] at hN;refine w249.x.1 fun E hP hR hPn hl hid hB hu=>?_;simp[w249];have hJ:=hl (J,_) (za ..);simp only at hJ;have J1:=lf hJ;simp[hlt,hci,J1];(refine yC rfl (hLt _) ?_; simp[J1]);(refine yC rfl (hp _) ?_; simp[J1]);(refine yC rfl (hN _) ?_; simp[J1]);have hrn:H5 []:=(by simp[rB,m7,J1,A4 hid]);refine hR _ _ _ (A78 e) ?_;refine E8 (by simp[rB,m7,J1,A4 hid]<;>rfl) [] hrn ⟨?_,?_,?_,?_,?_,?_⟩<;>(try simp[rB,m7,J1,A4 hid])
  ·have e:A0Y c r = .error (L7 w):=(by rw[hpt,zf g2]);have hfe:=fun id=>A2I (L7 w) id;have hne:(L7 w != 0)=true:=(by simpa using g2);refine w249.x.1 fun E hP hR hPn hl hid hB hu=>?_;simp[w249];have hJ:=hl (J,_) (za ..);simp only at hJ;have J1:=lf hJ;simp[hlt,hci,J1];(refine yC rfl (hLt _) ?_; simp[J1]);(refine yC rfl (hp _) ?_; simp[J1]);(refine yC rfl (hN _) ?_; simp[J1]);refine A9 hne ?_;simp[J1];refine D5 hP rfl (hfe _) (by simp[J1]) (by simp[J1]<;>rfl) (fun pv hpv=>⟨by simp[J1],by injection hpv with hpv; subst hpv; exact hPn _ _ (Z2 e) rfl (by simp[J1])⟩) (fun v wr h=>by cases h)
 have g1:A6f c=false:=by simpa using g1
 rw[g1] at hLt;by_cases g3:c8 c=true\/c=45
 ·have hpt:=C0Y (r:=r) g1 g3;have hn:=fun id=>B7e z i c r J id hi hd g3 h8;have hgd:(c8 c||((c.toNat:Int)==45))=true:=by
   rw[h45];rcases g3 with h|h
   ·rw[h]; rfl
   ·rw[h]; simp
  rw[hpt];rw[P6] at hn;rw[P6];cases hnt:A2K c r with
  | ok p =>
   obtain⟨t,u⟩:=p;rw[hnt] at hn;have hn:∀id,A2 Tryz.prog 285 [.ptr J 0 0] [(J,⟨[.agg [.str z,.int .i64 i]],.agg [.str z,.int .i64 0],false,false⟩)] id (.agg [.int .i64 t.kind,.str t.text,.int .i64 t.n]) [(J,some ⟨[.agg [.str z,.int .i64 (atU z u)]],.agg [.str z,.int .i64 0],false,false⟩)]:=hn;refine w249.x.1 fun E hP hR hPn hl hid hB hu=>?_;simp[w249];have hJ:=hl (J,_) (za ..);simp only at hJ;have J1:=lf hJ;simp[hlt,hci,J1];(refine yC rfl (hLt _) ?_; simp[J1]);(refine yC rfl (hDg _) ?_; simp[J1]);refine A9 hgd ?_;simp[J1];(refine yC rfl (hn _) ?_; simp[J1]);have hrn:H5 []:=(by simp[rB,m7,J1,A4 hid]);refine hR _ _ _ (rfl) ?_;refine E8 (by simp[rB,m7,J1,A4 hid]<;>rfl) [] hrn ⟨?_,?_,?_,?_,?_,?_⟩<;>(try simp[rB,m7,J1,A4 hid])
  | error e =>
   rw[hnt] at hn;have hn:∀id,Y5 Tryz.prog 285 [.ptr J 0 0] [(J,⟨[.agg [.str z,.int .i64 i]],.agg [.str z,.int .i64 0],false,false⟩)] id (.error (erV e)):=hn;refine w249.x.1 fun E hP hR hPn hl hid hB hu=>?_;simp[w249];have hJ:=hl (J,_) (za ..);simp only at hJ;have J1:=lf hJ;simp[hlt,hci,J1];(refine yC rfl (hLt _) ?_; simp[J1]);(refine yC rfl (hDg _) ?_; simp[J1]);refine A9 hgd ?_;simp[J1];refine D5 hP rfl (hn _) (by simp[J1]) (by simp[J1]<;>rfl) (fun pv hpv=>⟨by simp[J1],by injection hpv with hpv; subst hpv; exact hPn _ _ (rfl) rfl (by simp[J1])⟩) (fun v wr h=>by cases h)
 have hgd:(c8 c||((c.toNat:Int)==45))=false:=by
  rw[h45];cases h:c8 c with
  | true=>exact (g3 (.inl h)).elim
  | false=>simpa using fun h=>g3 (.inr h)
 by_cases g4:c=34
 ·have hpt:=B7f (r:=r) g4;have hn:=fun id=>C0X z i r J id hlt hd1 h8;rw[hpt];rw[P6] at hn;rw[P6];cases hnt:A0h r with
  | ok p =>
   obtain⟨t,u⟩:=p;rw[hnt] at hn;have hn:∀id,A2 Tryz.prog 286 [.ptr J 0 0] [(J,⟨[.agg [.str z,.int .i64 i]],.agg [.str z,.int .i64 0],false,false⟩)] id (.agg [.int .i64 t.kind,.str t.text,.int .i64 t.n]) [(J,some ⟨[.agg [.str z,.int .i64 (atU z u)]],.agg [.str z,.int .i64 0],false,false⟩)]:=hn;refine w249.x.1 fun E hP hR hPn hl hid hB hu=>?_;simp[w249];have hJ:=hl (J,_) (za ..);simp only at hJ;have J1:=lf hJ;simp[hlt,hci,J1];(refine yC rfl (hLt _) ?_; simp[J1]);(refine yC rfl (hDg _) ?_; simp[J1]);refine A0 hgd ?_;simp[J1];refine A9 (by rw[h34,g4]; rfl) ?_;simp[J1];(refine yC rfl (hn _) ?_; simp[J1]);have hrn:H5 []:=(by simp[rB,m7,J1,A4 hid]);refine hR _ _ _ (rfl) ?_;refine E8 (by simp[rB,m7,J1,A4 hid]<;>rfl) [] hrn ⟨?_,?_,?_,?_,?_,?_⟩<;>(try simp[rB,m7,J1,A4 hid])
  | error e =>
   rw[hnt] at hn;have hn:∀id,Y5 Tryz.prog 286 [.ptr J 0 0] [(J,⟨[.agg [.str z,.int .i64 i]],.agg [.str z,.int .i64 0],false,false⟩)] id (.error (erV e)):=hn;refine w249.x.1 fun E hP hR hPn hl hid hB hu=>?_;simp[w249];have hJ:=hl (J,_) (za ..);simp only at hJ;have J1:=lf hJ;simp[hlt,hci,J1];(refine yC rfl (hLt _) ?_; simp[J1]);(refine yC rfl (hDg _) ?_; simp[J1]);refine A0 hgd ?_;simp[J1];refine A9 (by rw[h34,g4]; rfl) ?_;simp[J1];refine D5 hP rfl (hn _) (by simp[J1]) (by simp[J1]<;>rfl) (fun pv hpv=>⟨by simp[J1],by injection hpv with hpv; subst hpv; exact hPn _ _ (rfl) rfl (by simp[J1])⟩) (fun v wr h=>by cases h)
 have hX:=fun id=>A5J [123,125,40,41,58,91,93] c id;have hsg:=sgX c;generalize Lib.indexByte [123,125,40,41,58,91,93] c=x at hX hsg;rw[P6];by_cases g5:sgC c=true
 ·have e:A0Y c r = .ok (⟨4,[c],0⟩,r):=by
   unfold A0Y;rw[zf (by simp[g1]),zf g3,zf g4,zj g5]
  have hju:i+1=atU z r:=by rw[←hd1]; exact (A2J (by omega)).symm
  refine w249.x.1 fun E hP hR hPn hl hid hB hu=>?_;simp[w249];have hJ:=hl (J,_) (za ..);simp only at hJ;have J1:=lf hJ;simp[hlt,hci,J1];(refine yC rfl (hLt _) ?_; simp[J1]);(refine yC rfl (hDg _) ?_; simp[J1]);refine A0 hgd ?_;simp[J1];refine A0 (by rw[h34]; simpa using g4) ?_;simp[J1];(refine yC rfl (hX _) ?_; simp[J1]);refine A9 (hsg.trans g5) ?_;simp[J1];rw[hi1];refine⟨by simp[A4e]; try omega,?_⟩;have hrn:H5 []:=by simp[rB,m7,J1,A4 hid]
  refine hR _ _ _ (B6A e hju.symm) ?_;refine E8 (by simp[rB,m7,J1,A4 hid]<;>rfl) [] hrn ⟨?_,?_,?_,?_,?_,?_⟩<;>(try simp[rB,m7,J1,A4 hid])
 ·have e:A0Y c r = .error 1:=by
   unfold A0Y;rw[zf (by simp[g1]),zf g3,zf g4,zf g5]
  refine w249.x.1 fun E hP hR hPn hl hid hB hu=>?_;simp[w249];have hJ:=hl (J,_) (za ..);simp only at hJ;have J1:=lf hJ;simp[hlt,hci,J1];(refine yC rfl (hLt _) ?_; simp[J1]);(refine yC rfl (hDg _) ?_; simp[J1]);refine A0 hgd ?_;simp[J1];refine A0 (by rw[h34]; simpa using g4) ?_;simp[J1];(refine yC rfl (hX _) ?_; simp[J1]);refine A0 (hsg.trans (by simpa using g5)) ?_;simp[J1];refine D5 hP rfl (hf _) (by simp[J1]) (by simp[J1]<;>rfl) (fun pv hpv=>⟨by simp[J1],by injection hpv with hpv; subst hpv; exact hPn _ _ (Z2 e) rfl (by simp[J1])⟩) (fun v wr h=>by cases h)
def oBx(v:AV):Bx:=⟨[v],.nils,false,false⟩
def F1(e:Int):Bx:=⟨[.int .i64 e],.int .i64 0,false,false⟩
theorem wkN{E:R4}{cc:CC}{c:Code}{σ:St}{p:St->Prop}{Q:Exit->Act->World->Prop}(hc:D3 E.P E.N c=cc)(hW:Wk E [.code cc,.post p] σ)(hR:∀τ,¬E.Rt τ)(hP:∀pv τ,¬E.Pn pv τ){G:Gh}{a:Act}{w:World}(hD:S5 E σ G a w)
  (hk:∀τ G a w,S5 E τ G a w->p τ->Q .normal a w):c.wp E.P Q a w:=by
 refine wp_mono (hW _ hc G a w hD) fun e a w hq=>?_;cases e with
 | normal=>obtain⟨σ',G',h1,h2⟩:=hq; exact hk _ _ _ _ h1 h2
 | ret=>obtain⟨σ',G',h1,h2⟩:=hq; exact (hR _ h2).elim
 | exit id=>obtain⟨_,_,_,h⟩:=hq; exact h.elim
 | panic chain=>obtain⟨pv,u,σ,F,B,U,G',rfl,h1,h2,h3,h4⟩:=hq; exact (hP _ _ h4).elim
 | _=>exact hq.elim
theorem C0Z(E:R4)(e:Int)(x:AV)(y:Int)(J4 J5:Nat)(h4:J4<E.n0)(h5:J5<E.n0)(d:J4≠J5)(hx:x = .nils\/∃M n,x = .bsl M 0 n)(hR:∀fr bx k,bk bx J4=some (oBx .nils)->bk bx J5=some (F1 e)->(∀q∈bx,q.1=J4\/q.1=J5\/E.n0<=q.1)->E.Rt ⟨fr,bx,k⟩):
  Wk E [.code A8T] ⟨[(0,true,.ptr J4 0 0),(1,true,.ptr J5 0 0),(2,true,erV e)],[(J4,some (oBx x)),(J5,some (F1 y))],0⟩:=by
 unfold erV oBx F1;have e4:∀t,(J4=E.n0+t)=False:=fun t=>by simp; omega
 have e5:∀t,(J5=E.n0+t)=False:=fun t=>by simp; omega
 rcases hx with rfl|⟨M,n,rfl⟩
 ·refine A3 4000 ?_;simp[A8T,e4,e5,d,zt d];refine hR _ _ _ ?_ ?_ ?_
  ·simp[e4,e5,d,zt d,oBx]
  ·simp[e4,e5,d,zt d,F1]
  ·simp
 ·refine A3 4000 ?_;simp[A8T,e4,e5,d,zt d];refine hR _ _ _ ?_ ?_ ?_
  ·simp[e4,e5,d,zt d,oBx]
  ·simp[e4,e5,d,zt d,F1]
  ·simp
theorem C5b{x x' z:Code}{X:Operand}{Y:Code}(h:Tryz.f247.body=some (.seq x (.seq x' (.cond X Y z)))):D3 Tryz.prog Tryz.f247.ntmps Y=A8T:=by
 have h0:=C46;rw[h] at h0;simp only[vf,zd,C2y] at h0;obtain⟨_,_,e1,_,h1⟩:=H4 h0;injection e1 with _ e1
 subst e1;obtain⟨_,_,e2,_,h2⟩:=H4 h1;injection e2 with _ e2
 subst e2;obtain⟨_,_,_,e3,_,h3,_⟩:=A13 h2;injection e3 with _ e3 _
 subst e3;exact h3
theorem C0a(C:Cx Tryz.prog)(G:Gh)(B:Nat->Option Bx)(w:World)(er:Int)(x:AV)(y:Int)(hx:x = .nils\/∃M n,x = .bsl M 0 n)(n0 J4 J5:Nat)(v4 v5 u:Value)(hs:RS C G B w)(hv4:RV G w (.ptr J4 0 0) v4)(hv5:RV G w (.ptr J5 0 0) v5)(hu:RV G w (erV er) u)
  (h4:B J4=some (oBx x)) (h5:B J5=some (F1 y)) (d:J4≠J5) (hold:∀x,G.used x->x<n0) (how:∀x,n0<=x->B x=none) :
  CallsD Tryz.prog 247 #[v4,v5] (.panicking [{ v:=u,recovered:=false }]) w fun e u' w'=>u' = .panicking [{ v:=u,recovered:=true }]/\(∃v,e = .returned v) /\
   ∃G' l k,RS C G' (ov B l) w'/\M0 G w G' w'/\bk l J4=some (oBx .nils)/\bk l J5=some (F1 er)/\(∀q∈l,q.1=J4\/q.1=J5\/n0<=q.1)/\(∀x,x<n0->G'.used x->G.used x)/\∀x,G'.used x->x<n0+k:=by
 obtain⟨q,rfl⟩:∃q,u = .iface 31 q:=by
  unfold erV at hu;cases hu with|iface _ _ q h=>exact⟨q,rfl⟩
 refine callsD_of_wpS Tryz.func247 rfl fun c₀ cs hm=>?_;apply wpS_seq;apply wpS_region;simp[wpOpsS,go_sem,recoverD,hm,Tryz.ntmps247,Exit.thenS];apply wpS_seq;apply wpS_region;simp[wpOpsS,go_sem,Exit.thenS];refine wpS_cond (t:=true) (by simp[Act.eval,Array.replicate]) ?_;apply wpS_of_wp;simp only[if_true];let E:R4:=⟨Tryz.prog,C,B,Tryz.f247.ntmps,n0,G,w,how,hold,hs,[],fun σ=>bk σ.bx J4=some (oBx .nils)/\bk σ.bx J5=some (F1 er)/\∀q∈σ.bx,q.1=J4\/q.1=J5\/n0<=q.1,fun _ _=>False⟩
 have l4:=hold J4 (hs.boxNames h4).1;have l5:=hold J5 (hs.boxNames h5).1;have hW:=C0Z E er x y J4 J5 l4 l5 d hx fun fr bx k h1 h2 h3=>⟨h1,h2,h3⟩;refine wp_mono (hW _ (C5b rfl) G _ w ?_) fun e a w' hq=>?_
 ·refine⟨M0.refl G w,?_,fun i hi=>by have:=hold i hi; show i<n0+0; omega,fun i _ hi=>hi,fun n c v hl=>?_,?_,rfl⟩
  ·have hh:K5 B [(J4,oBx x),(J5,F1 y)]:=fun q hq=>by
    simp at hq;rcases hq with rfl|rfl
    ·exact h4
    ·exact h5
   have:=A23 hh;simp only[C9] at this;show RS C G (ov B _) w;rw[this]; exact hs
  ·simp only[lk] at hl;repeat' split at hl
   all_goals first|cases hl|skip
   all_goals rename_i hn<;>subst hn<;>refine⟨fun _=>?_,fun h=>by cases h⟩
   ·simpa [zk] using hv4
   ·simpa [zk] using hv5
   ·simpa [zk] using hu
  ·simp[E,Tryz.ntmps247]
 ·have fin:∀σ G',S5 E σ G' a w'->E.Rt σ->∀(cs':List Frame),a.defers=[]/\(∃v,(results Tryz.f247 a.tmps).run Tryz.prog w' = .ok v w')/\∃G' l k,RS C G' (ov B l) w'/\M0 G w G' w'/\bk l J4=some (oBx .nils)/\bk l J5=some (F1 er)/\(∀q∈l,q.1=J4\/q.1=J5\/n0<=q.1)/\(∀x,x<n0->G'.used x->G.used x)/\∀x,G'.used x->x<n0+k:=fun σ G' hD hR _=>by
   refine⟨hD.defers,⟨_,by simp[results,Tryz.results72]; rfl⟩,G',σ.bx,σ.k,hD.rs,hD.ev,hR.1,hR.2.1,hR.2.2,hD.old,hD.used⟩
  cases e with
  | normal =>
   obtain⟨σ,G',h1,h2⟩:=hq;obtain⟨f1,⟨v,f2⟩,f3⟩:=fin σ G' h1 h2 cs;exact⟨f1,_,rfl,v,f2,rfl,⟨v,rfl⟩,by obtain⟨g1,g2,g3,d1,d2,d3,d4,d5,d6,d7⟩:=f3; exact⟨g1,g2,d1,d2,d3,d4,fun x y h=>d5 (x,y) h,d6,g3,d7⟩⟩
  | ret =>
   obtain⟨σ,G',h1,h2⟩:=hq;obtain⟨f1,⟨v,f2⟩,f3⟩:=fin σ G' h1 h2 cs;exact⟨f1,_,rfl,v,f2,rfl,⟨v,rfl⟩,by obtain⟨g1,g2,g3,d1,d2,d3,d4,d5,d6,d7⟩:=f3; exact⟨g1,g2,d1,d2,d3,d4,fun x y h=>d5 (x,y) h,d6,g3,d7⟩⟩
  | exit id=>obtain⟨σ,G',h1,h2⟩:=hq; exact h2.elim
  | panic chain =>
   obtain⟨pv,u,σ,F,B,U,G',rfl,h1,h2,h3,h4⟩:=hq;exact h4.elim
  | _=>exact hq.elim
theorem C0b(v1 v2:Value)(w:World):CallsD Tryz.prog 247 #[v1,v2] .returning w fun e u' w'=>u' = .returning/\(∃v,e = .returned v)/\w'=w:=by
 refine callsD_of_wpS Tryz.func247 rfl fun c₀ cs hu=>?_;apply wpS_seq;apply wpS_region;simp[wpOpsS,go_sem,recoverD,hu,Tryz.ntmps247,Exit.thenS];apply wpS_seq;apply wpS_region;simp[wpOpsS,go_sem,Exit.thenS];refine wpS_cond (t:=false) (by simp[Act.eval,Array.replicate]) ?_;simp only[xi,if_false];apply wpS_of_wp;refine wp_skip ?_;exact⟨rfl,_,by rw[←hu],_,by simp[results,Tryz.results72]; rfl,rfl,⟨_,rfl⟩,rfl⟩
theorem C5c{E:R4}{cb:Code}{X:Type}(inv:X->St)(ok:X->Prop)(m:X->Nat){Q:Exit->Act->World->Prop}(x0:X)(hx0:ok x0){G:Gh}{a:Act}{w:World}(hD:S5 E (inv x0) G a w)
  (step:∀x,ok x->∀G a w,S5 E (inv x) G a w->cb.wp E.P (fun e a' w'=>match e with
   | .normal=>∃x' G',ok x'/\m x'<m x/\S5 E (inv x') G' a' w'
   | e=>Q e a' w') a w):(Code.loop cb).wp E.P Q a w:=by
 refine wp_loop_ghost (fun n a w=>∃x G,ok x/\m x=n/\S5 E (inv x) G a w) (m x0) ⟨x0,G,hx0,rfl,hD⟩ fun n a w hI=>?_;obtain⟨x,G2,hx,rfl,hD2⟩:=hI;refine wp_mono (step x hx G2 a w hD2) fun e a' w' hq=>?_;cases e with
 | normal =>
  obtain⟨x',G',h1,h2,h3⟩:=hq;exact⟨m x',h2,x',G',h1,rfl,h3⟩
 | _=>exact hq
theorem C0c{β:Nat->Option Bx}{l:List (Nat×Option Bx)}{B:Nat->Option Bx}(h:B5A β l B):B=ov β (l.map fun q=>(q.1,B q.1)):=by
 funext y
 have key:∀l:List (Nat×Option Bx),ov β (l.map fun q=>(q.1,B q.1)) y=if y∈l.map (·.1) then B y else β y:=fun l=>by
  induction l with
  | nil=>simp[ov]
  | cons q l ih =>
   simp only[ym,ov,U8,zh];by_cases hq:y=q.1
   ·subst hq; simp
   ·rw[zf hq,ih];by_cases hy:y∈l.map (·.1)
    ·rw[zj hy,zj (.inr hy)]
    ·rw[zf hy,zf (by rintro (h|h); exact hq h; exact hy h)]
 rw[key];split
 ·rfl
 ·rename_i hn;rcases h y with h|h
  ·exact h
  ·exact (hn (zu.2 ⟨_,h,rfl⟩)).elim
def j7(E:R4)(O I:Nat)(s:List UInt8)(q:List Tk×Nat):St :=
 ⟨[(0,true,.str s),(2,true,.ptr O 0 0),(3,true,.ptr I 0 0),(4,true,.ptr E.n0 0 0)],[(E.n0,some (rB s q.2)),(O,some (oBx (.bsl (E.n0+1) 0 q.1.length))),(I,some (F1 0)),(E.n0+1,some ⟨q.1.map m7,.agg [.int .i64 0,.str [],.int .i64 0],false,false⟩)],2⟩
theorem C0d(t:Tk):(m7 t).pureB=true:=rfl
@[simp] theorem A8b (l:List Tk):F9 (l.map m7)=true:=E7 C0d l
@[simp] theorem C4n (S:Nat->Prop) (l:List Tk):F3 S (l.map m7):=B3 _ (A8b l)
@[simp] theorem C62 (R:Rn) (S:Nat->Prop) (l:List Tk):N8 R S (l.map m7) (l.map m7):=C2 rfl (A8b l)
section
variable (E:R4) (hP:E.P=Tryz.prog) (O I:Nat) (h4:O<E.n0) (h5:I<E.n0) (d:O≠I) (s:List UInt8) (h8:s.length<=1099511627776)
include hP h4 h5 d h8
theorem C5d :
  Wk E [.code A8Q,.post fun σ=>E4 E σ (j7 E O I s ([],A1J s 0))] ⟨[(4,true,.ptr (E.n0+2048) 0 0),(8,true,.ptr (E.n0+2048) 0 0),(7,true,.agg [.str s,.int .i64 0]),(6,true,.str s),(3,true,.ptr I 0 0),(2,true,.ptr O 0 0),(0,true,.str s)],[(E.n0+2048,some (rB s 0)),(I,some (F1 0)),(O,some (oBx .nils))],4096⟩:=by
 have e4:∀t,(O=E.n0+t)=False:=fun t=>by simp; omega
 have e5:∀t,(I=E.n0+t)=False:=fun t=>by simp; omega
 have f4:∀t,(E.n0+t=O)=False:=fun t=>by simp; omega
 have f5:∀t,(E.n0+t=I)=False:=fun t=>by simp; omega
 have g4:(O=E.n0)=False:=by simp; omega
 have g5:(I=E.n0)=False:=by simp; omega
 have k4:(E.n0=O)=False:=by simp; omega
 have k5:(E.n0=I)=False:=by simp; omega
 have hb:=fun id=>B3H s 0 (E.n0+2048) id (by omega) h8;rw[P6,P6] at hb;rw[P6];unfold oBx F1;refine A3 4000 ?_;simp[A8Q,e4,e5,f4,f5,d,zt d];refine D8 hP rfl (hb _) (by simp) (by simp<;>rfl) ?_;refine A3 4000 ?_;simp[e4,e5,f4,f5,d,zt d];unfold j7;refine E4.trans (E4.voidBox O (x:=.nils) (y:=.bsl (E.n0+6144) 0 0) (by simp[e4,e5,f4,f5,d,zt d]; rfl) rfl .nils (.agg [.int .i64 0,.str [],.int .i64 0])) ?_;refine yV [(E.n0,E.n0+2048),(E.n0+1,E.n0+6144)] (by simp[rB,oBx,F1,h4,h5,e4,e5,f4,f5,g4,g5,k4,k5,d,zt d]) fun hrn=>⟨?_,?_,?_,?_,?_⟩<;>(try simp[rB,oBx,F1,h4,h5,e4,e5,f4,f5,g4,g5,k4,k5,d,zt d])
theorem C5e(acc:List Tk):
  Wk E [.code A62,.post (fun _=>False),.blk 0,.post fun σ=>E4 E σ (j7 E O I s (acc,s.length))] (j7 E O I s (acc,s.length)):=by
 have e4:∀t,(O=E.n0+t)=False:=fun t=>by simp; omega
 have e5:∀t,(I=E.n0+t)=False:=fun t=>by simp; omega
 have f4:∀t,(E.n0+t=O)=False:=fun t=>by simp; omega
 have f5:∀t,(E.n0+t=I)=False:=fun t=>by simp; omega
 have g4:(O=E.n0)=False:=by simp; omega
 have g5:(I=E.n0)=False:=by simp; omega
 have k4:(E.n0=O)=False:=by simp; omega
 have k5:(E.n0=I)=False:=by simp; omega
 unfold j7 oBx F1 rB;refine A3 4000 ?_;simp[A62,A8R,B4m,h4,h5,e4,e5,f4,f5,g4,g5,k4,k5,d,zt d];refine yV [(E.n0,E.n0),(E.n0+1,E.n0+1)] (by simp[h4,h5,e4,e5,f4,f5,g4,g5,k4,k5,d,zt d]) fun hrn=>⟨?_,?_,?_,?_,?_⟩<;>(try simp[h4,h5,e4,e5,f4,f5,g4,g5,k4,k5,d,zt d])
theorem C5f(acc:List Tk)(j:Nat)(hj:j<s.length):
  Wk E [.code A8R,.post fun σ=>lk σ.fr 17=some (true,.bool true)/\E4 E σ (j7 E O I s (acc,j))] (j7 E O I s (acc,j)):=by
 have e4:∀t,(O=E.n0+t)=False:=fun t=>by simp; omega
 have e5:∀t,(I=E.n0+t)=False:=fun t=>by simp; omega
 have f4:∀t,(E.n0+t=O)=False:=fun t=>by simp; omega
 have f5:∀t,(E.n0+t=I)=False:=fun t=>by simp; omega
 have g4:(O=E.n0)=False:=by simp; omega
 have g5:(I=E.n0)=False:=by simp; omega
 have k4:(E.n0=O)=False:=by simp; omega
 have k5:(E.n0=I)=False:=by simp; omega
 unfold j7 oBx F1 rB;refine A3 4000 ?_;simp[A8R,hj,h4,h5,e4,e5,f4,f5,g4,g5,k4,k5,d,zt d];refine yV [(E.n0,E.n0),(E.n0+1,E.n0+1)] (by simp[h4,h5,e4,e5,f4,f5,g4,g5,k4,k5,d,zt d]) fun hrn=>⟨?_,?_,?_,?_,?_⟩<;>(try simp[h4,h5,e4,e5,f4,f5,g4,g5,k4,k5,d,zt d])
theorem C5g(acc:List Tk)(j:Nat)(hj:j<=s.length)(c:UInt8)(r u:List UInt8)(t:Tk)(hd:s.drop j=c::r)(ht:A0Y c r = .ok (t,u))(hl:acc.length<=300):
  Wk E [.code A0Z,.post fun σ=>E4 E σ (j7 E O I s (acc++[t],atU s u))] (j7 E O I s (acc,j)):=by
 have e4:∀t,(O=E.n0+t)=False:=fun t=>by simp; omega
 have e5:∀t,(I=E.n0+t)=False:=fun t=>by simp; omega
 have f4:∀t,(E.n0+t=O)=False:=fun t=>by simp; omega
 have f5:∀t,(E.n0+t=I)=False:=fun t=>by simp; omega
 have g4:(O=E.n0)=False:=by simp; omega
 have g5:(I=E.n0)=False:=by simp; omega
 have k4:(E.n0=O)=False:=by simp; omega
 have k5:(E.n0=I)=False:=by simp; omega
 have hT:=fun id=>B3L s j c r E.n0 id hj hd h8;rw[ht] at hT;have hT:∀id,A2 Tryz.prog 249 [.ptr E.n0 0 0] [(E.n0,rB s j)] id (.agg [.int .i64 t.kind,.str t.text,.int .i64 t.n]) [(E.n0,some (rB s (atU s u)))]:=hT;rw[P6,P6] at hT;unfold j7 oBx F1 rB;refine A3 4000 ?_;simp[A0Z,h4,h5,e4,e5,f4,f5,g4,g5,k4,k5,d,zt d];refine D8 hP rfl (hT _) (by simp) (by simp<;>rfl) ?_;refine A3 4000 ?_;simp[h4,h5,e4,e5,f4,f5,g4,g5,k4,k5,d,zt d];refine⟨⟨by omega,by omega⟩,?_⟩;refine yV [(E.n0,E.n0),(E.n0+1,E.n0+4098)] (by simp[m7,h4,h5,e4,e5,f4,f5,g4,g5,k4,k5,d,zt d]) fun hrn=>⟨?_,?_,?_,?_,?_⟩<;>(try simp[m7,h4,h5,e4,e5,f4,f5,g4,g5,k4,k5,d,zt d]);exact C2 rfl (C4 (A8b _) rfl)
theorem C32(acc:List Tk)(j:Nat)(b:Bool)(hb:decide (300<(acc.length:Int))=b):
  Wk E [.code B1K,.post fun σ=>lk σ.fr 27=some (true,.bool b)/\E4 E σ (j7 E O I s (acc,j))] (j7 E O I s (acc,j)):=by
 have e4:∀t,(O=E.n0+t)=False:=fun t=>by simp; omega
 have e5:∀t,(I=E.n0+t)=False:=fun t=>by simp; omega
 have f4:∀t,(E.n0+t=O)=False:=fun t=>by simp; omega
 have f5:∀t,(E.n0+t=I)=False:=fun t=>by simp; omega
 have g4:(O=E.n0)=False:=by simp; omega
 have g5:(I=E.n0)=False:=by simp; omega
 have k4:(E.n0=O)=False:=by simp; omega
 have k5:(E.n0=I)=False:=by simp; omega
 unfold j7 oBx F1 rB;refine A3 4000 ?_;simp[B1K,hb,h4,h5,e4,e5,f4,f5,g4,g5,k4,k5,d,zt d];refine yV [(E.n0,E.n0),(E.n0+1,E.n0+1)] (by simp[h4,h5,e4,e5,f4,f5,g4,g5,k4,k5,d,zt d]) fun hrn=>⟨?_,?_,?_,?_,?_⟩<;>(try simp[h4,h5,e4,e5,f4,f5,g4,g5,k4,k5,d,zt d])
theorem C5h(acc:List Tk)(j:Nat)(hj:j<=s.length):
  Wk E [.code B1L,.post fun σ=>E4 E σ (j7 E O I s (acc,A1J s j))] (j7 E O I s (acc,j)):=by
 have e4:∀t,(O=E.n0+t)=False:=fun t=>by simp; omega
 have e5:∀t,(I=E.n0+t)=False:=fun t=>by simp; omega
 have f4:∀t,(E.n0+t=O)=False:=fun t=>by simp; omega
 have f5:∀t,(E.n0+t=I)=False:=fun t=>by simp; omega
 have g4:(O=E.n0)=False:=by simp; omega
 have g5:(I=E.n0)=False:=by simp; omega
 have k4:(E.n0=O)=False:=by simp; omega
 have k5:(E.n0=I)=False:=by simp; omega
 have hb:=fun id=>B3H s j E.n0 id hj h8;rw[P6,P6] at hb;unfold j7 oBx F1 rB;refine A3 4000 ?_;simp[B1L,h4,h5,e4,e5,f4,f5,g4,g5,k4,k5,d,zt d];refine D8 hP rfl (hb _) (by simp) (by simp<;>rfl) ?_;refine A3 4000 ?_;simp[h4,h5,e4,e5,f4,f5,g4,g5,k4,k5,d,zt d];refine yV [(E.n0,E.n0),(E.n0+1,E.n0+1)] (by simp[h4,h5,e4,e5,f4,f5,g4,g5,k4,k5,d,zt d]) fun hrn=>⟨?_,?_,?_,?_,?_⟩<;>(try simp[h4,h5,e4,e5,f4,f5,g4,g5,k4,k5,d,zt d])
end
end Go.Am
