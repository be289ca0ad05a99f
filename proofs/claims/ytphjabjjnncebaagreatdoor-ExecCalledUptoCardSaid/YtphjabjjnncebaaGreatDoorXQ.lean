/- Parts of the proof: an abstract machine for Go functions, and what functions of the program give back (Ex28, Wb1, Vl9, Te1, Ex30, Am65, Lt8, Lt9, Fb, Fse, Lw5, JfE). No condition. -/
import Derived.Test.YtphjabjjnncebaaGreatDoorXP
import Derived.Lib.ItoaLen
import Derived.Test.YtphjabjjnncebaaGreatDoorXJ
import Derived.Test.YtphjabjjnncebaaGreatDoorXK
import Derived.Test.YtphjabjjnncebaaGreatDoorXE
import Derived.Test.YtphjabjjnncebaaGreatDoorXO
import Derived.Test.YtphjabjjnncebaaGreatDoorXF
import Derived.Test.YtphjabjjnncebaaGreatDoorXG
import Derived.Test.YtphjabjjnncebaaGreatDoorRows
import Derived.Test.YtphjabjjnncebaaGreatDoorCards
import Derived.Test.YtphjabjjnncebaaGreatDoorTie
import Derived.Deep.DeepHandedRow
import Derived.Lib.LaidTab
import Derived.LaidLaws
set_option maxRecDepth 100000
set_option linter.all false
set_option maxHeartbeats 16000000
namespace Go.Am
open Go Go.Proofs Go.RowKit
mutual
def jS:H3->List UInt8
 | .mk k n t ks l=>if k=2 then Lib.itoa n else if k=3 then V6 t else if k=1 then [110,117,108,108]
  else if k=5 then 123::Lib.join (jM ks l) [44]++[125] else 91::Lib.join (jL l) [44]++[93]
def jL:List H3->List (List UInt8)
 | []=>[]
 | o::r=>jS o::jL r
def jM:List (List UInt8)->List H3->List (List UInt8)
 | _,[]=>[]
 | ks,o::r=>(V6 (ks.headD [])++[58]++jS o)::jM ks.tail r
end
theorem A4L:∀l:List H3,jL l=l.map jS
 | []=>rfl
 | o::r=>by simp[jL,A4L r]
theorem B36:∀(l:List H3) (ks:List (List UInt8)) (i:Nat) (o:H3) (k:List UInt8),l[i]?=some o->ks[i]?=some k->(jM ks l)[i]?=some (V6 k++[58]++jS o)
 | [],ks,i,o,k,h,_=>by simp at h
 | x::r,[],i,o,k,_,h=>by simp at h
 | x::r,y::ks,0,o,k,h1,h2=>by simp at h1 h2; subst h1 h2; simp[jM]
 | x::r,y::ks,i+1,o,k,h1,h2=>by simp at h1 h2; simp[jM]; simpa using B36 r ks i o k h1 h2
theorem A6Y:∀(l:List H3) (ks:List (List UInt8)),(jM ks l).length=l.length
 | [],ks=>by simp[jM]
 | x::r,ks=>by simp[jM,A6Y r]
theorem B4b(o:H3):jS o=if o.kind=2 then Lib.itoa o.n else if o.kind=3 then V6 o.text else if o.kind=1 then [110,117,108,108]
  else if o.kind=5 then 123::Lib.join (jM o.keys o.kids) [44]++[125] else 91::Lib.join (jL o.kids) [44]++[93]:=by cases o; rfl
def jP(o:H3):List (List UInt8):=if o.kind=5 then jM o.keys o.kids else jL o.kids
theorem B5Z(o:H3):(jP o).length=o.kids.length:=by
 unfold jP; split
 ·exact A6Y _ _
 ·rw[A4L]; simp
theorem A2R{α:Type}{f:Nat->α->Int}:∀{l:List α} {i:Nat},B9 f l i=0->∀(k:Nat) x,l[k]?=some x->f (i+k) x=0
 | [],i,_,k,x,h=>by simp at h
 | y::l,i,h,k,x,hx=>by
  simp only[B9] at h;split at h
  ·rename_i h0; exact (h0 h).elim
  rename_i h0;cases k with
  | zero=>simp at hx; subst hx; exact zm h0
  | succ k=>rw[show i+(k+1)=i+1+k by omega]; exact A2R h k x (by simpa using hx)
theorem A5f{s:List UInt8}(h:F2 s=0):s.length<=12:=by
 unfold F2 at h;split at h
 ·cases h
 ·omega
structure B4c(o:H3):Prop where
 k1:1<=o.kind/\o.kind<=5
 n0:o.kind≠2->o.n=0
 t0:o.kind≠3->o.text=[]
 m0:o.kind≠5->o.keys=[]
 l0:o.kind<4->o.kids=[]
 ni : -999999999<=o.n/\o.n<=999999999
 tl:o.text.length<=40
 ml:o.kind=5->o.keys.length=o.kids.length
 ks:∀k∈o.keys,F2 k=0
 nd:A5a o.keys=0
theorem B6I{o:H3}(h:t7 o=0):B4c o:=by
 unfold t7 at h;split at h
 ·cases h
 rename_i h1;split at h
 ·cases h
 rename_i h2;split at h
 ·cases h
 rename_i h3;split at h
 ·cases h
 rename_i h4;split at h
 ·cases h
 rename_i h5;have hn:∀{p q:Prop},¬(p/\¬q)->p->q:=fun h hp=>zm fun hq=>h ⟨hp,hq⟩;refine⟨by omega,fun g=>?_,fun g=>?_,fun g=>?_,fun g=>?_,by omega,by omega,fun g=>?_,fun k hk=>?_,h⟩
 ·exact zm fun q=>h2 (.inl ⟨g,q⟩)
 ·exact zm fun q=>h2 (.inr (.inl ⟨g,q⟩))
 ·exact zm fun q=>h2 (.inr (.inr (.inl ⟨g,q⟩)))
 ·exact zm fun q=>h2 (.inr (.inr (.inr ⟨g,q⟩)))
 ·exact zm fun q=>h5 ⟨g,q⟩
 ·obtain⟨i,hi⟩:=yk.1 hk;have:=A2R h i k hi;unfold A0D B2s at this;split at this
  ·rename_i h0; exact (h0 this).elim
  ·rename_i h0; exact zm h0
theorem A8x{l:List H3}(h:A0E l=0):∀o∈l,j7 o=0:=by
 induction l with
 | nil=>intro o ho; cases ho
 | cons x r ih =>
  simp only[A0E] at h;split at h
  ·rename_i h0; exact (h0 h).elim
  rename_i h0;intro o ho;rcases zi.1 ho with rfl|ho
  ·exact zm h0
  ·exact ih h o ho
theorem A5g{o:H3}(h:j7 o=0):B4c o/\∀x∈o.kids,j7 x=0:=by
 rw[A7y] at h;split at h
 ·rename_i h0; exact (h0 h).elim
 ·rename_i h0; exact⟨B6I (zm h0),A8x h⟩
theorem A9h(xs:List (List UInt8)):(Lib.join xs [44]).length<=(xs.map List.length).sum+xs.length:=by
 have key:∀l:List (List UInt8),Lib.lens l=(l.map List.length).sum:=fun l=>by
  induction l with
  | nil=>rfl
  | cons a r ih=>simp[Lib.lens,ih]
 cases xs with
 | nil=>simp[Lib.join]
 | cons x r=>rw[Lib.join_length,key]; simp; omega
theorem A6Z:∀(m:Nat) (o:H3),o.sz<m->j7 o=0->(jS o).length+2<=400*o.sz
 | 0,o,h,_=>by omega
 | m+1,o,h,hc=>by
  obtain⟨h1,h2⟩:=A5g hc;have hz:=A1I o;have hkid:∀x∈o.kids,(jS x).length+2<=400*x.sz:=fun x hx=>A6Z m x (by have:=x5 hx; omega) (h2 x hx);rw[B4b];split
  ·have:=Lib.itoa_length_le o.n (by have:=h1.ni; omega) (by have:=h1.ni; omega);omega
  split
  ·have:=A4K o.text;have:=h1.tl;simp[V6]; omega
  split
  ·simp; omega
  have hsum:∀l:List H3,(∀x∈l,(jS x).length+2<=400*x.sz)->((l.map jS).map List.length).sum+2*l.length<=400*Z7 l:=fun l=>by
   induction l with
   | nil=>intro _; simp[Z7]
   | cons x r ih =>
    intro hx;have:=ih fun y hy=>hx y (za _ hy);have:=hx x (zb ..);simp only[yd,ud,yz,Z7];omega
  split
  ·have hm:∀(l:List H3) (ks:List (List UInt8)),(∀k∈ks,k.length<=12)->((jM ks l).map List.length).sum<=((l.map jS).map List.length).sum+75*l.length:=fun l=>by
    induction l with
    | nil=>intro ks _; simp[jM]
    | cons x r ih =>
     intro ks hk;have:=ih ks.tail fun k hk'=>hk k (List.mem_of_mem_tail hk');have h0:(ks.headD []).length<=12:=by
      cases ks with
      | nil=>simp
      | cons a b=>exact hk a (zb ..)
     have hq:=A4K (ks.headD []);simp only[jM,yd,ud,yz,yy,V6,List.length_nil];omega
   have a1:=hm o.kids o.keys fun k hk=>A5f (h1.ks k hk);have a2:=hsum o.kids hkid;have a3:=A9h (jM o.keys o.kids);rw[A6Y] at a3;have a4:=h1.ml (by assumption);simp;omega
  ·have a2:=hsum o.kids hkid;have a3:=A9h (jL o.kids);rw[A4L] at a3 ⊢;simp at a3 ⊢;simp at a2;omega
theorem A81{l:List AV}(h:E7 l=true)(n:Nat):E7 (l.take n)=true:=A3I fun i x hx=>by
 rw[zr] at hx;split at hx
 ·exact A9i h hx
 ·cases hx
theorem A2S:∀(m:Nat) (o:H3) (id:Nat),o.sz<m->o.sz<=100000000000->j7 o=0->A2 Tryz.prog 61 [eO o] [] id (.str (jS o)) []
 | 0,o,id,hm,_,_=>by omega
 | m+1,o,id,hm,h8,hc=>by
  obtain⟨h1,h2⟩:=A5g hc;have hsz:=A1I o;have hlen:=x4 o.kids;have hJ:=B4b o;have hIt:=fun id=>B4J o.n id (by have:=h1.ni; unfold I64; omega);have hQt:=fun id=>A5d o.text id (by have:=h1.tl; omega);rw[Q5 o];refine w61.e.1 fun E hP hR hl hid=>?_;simp[w61];refine C9 (fun g=>?_) (fun g=>?_)<;>simp
  ·have g:o.kind=2:=(by simpa using g);rw[zk g] at hJ;rw[hJ] at hR;(refine yH rfl (hIt _) ?_; simp);exact yP hR
  have g2:o.kind≠2:=by simpa using g
  refine C9 (fun g=>?_) (fun g=>?_)<;>simp
  ·have g:o.kind=3:=(by simpa using g);rw[zh g2,zk g] at hJ;rw[hJ] at hR;(refine yH rfl (hQt _) ?_; simp);exact yP hR
  have g3:o.kind≠3:=by simpa using g
  refine C9 (fun g=>?_) (fun g=>?_)<;>simp
  ·have g:o.kind=1:=(by simpa using g);rw[zh g2,zh g3,zk g] at hJ;rw[hJ] at hR;exact yP hR
  have g1:o.kind≠1:=by simpa using g
  rw[zh g2,zh g3,zh g1] at hJ;have hpl:=B5Z o;have hJl:=A6Z (o.sz+1) o (wq _) hc;by_cases k5:o.kind=5
  ·rw[zk k5] at hJ;rw[hJ] at hR hJl;have hjl:=A6Y o.kids o.keys;have hkk:=h1.ml k5;have hst0:∀i:Nat,(jM o.keys o.kids).take i=if i=0 then [] else (jM o.keys o.kids).take i:=fun i=>by split<;>simp_all
   refine C8 (X:=Nat) (fun i=>⟨[(1,true,.ptr E.n0 0 0),(3,true,.str (if i=0 then [91,93] else [123,125])),(4,true,.bsl (E.n0+1) 0 i),(23,true,.sl (o.kids.map eO)),(24,true,.int .i64 o.kids.length),(25,true,.int .i64 i)],
    [(E.n0,some ⟨[.agg [.int .i64 o.kind,.int .i64 o.n,.str o.text,.sl (o.keys.map .str),.sl (o.kids.map eO)]],.agg [.int .i64 o.kind,.int .i64 o.n,.str o.text,.sl (o.keys.map .str),.sl (o.kids.map eO)],false,false⟩),(E.n0+1,some ⟨((jM o.keys o.kids).map AV.str).take i,.str [],false,false⟩)],2⟩)
    (fun i=>i<=o.kids.length) (fun i=>o.kids.length - i) 0 ?_ (by omega) ?_
   ·refine H0.trans (H0.voidSlot 4 (x:=.nils) (y:=.bsl (E.n0+16384) 0 0) (by simp) .nils (.str [])) ?_;refine yV [(E.n0,E.n0),(E.n0+1,E.n0+16384)] (by simp) fun hrn=>⟨?_,?_,?_,?_,?_⟩<;>(try simp)
   rintro i hi p hp;refine A6 4000 ?_;simp;refine C9 (fun h=>?_) (fun h=>?_)
   ·have h:=zp h;obtain⟨x,hx,hd⟩:=B6 h;have hi1:IntKind.i64.wrap ((i:Int)+1)=((i+1:Nat):Int):=wrap64 (by omega);have hxm:=zf hx;have hxz:=x5 hxm;have hxl:=A6Z (x.sz+1) x (wq _) (h2 x hxm);have ih:=fun id=>A2S m x id (by omega) (by omega) (h2 x hxm);rw[Q5 x] at ih;simp[hx,Q5 x];refine⟨h,?_⟩;(refine yH rfl (ih _) ?_; simp);obtain⟨k,hk⟩:∃k,o.keys[i]?=some k:=⟨_,zd (by omega)⟩;have hkl:=A5f (h1.ks k (zf hk));have hQk:=fun id=>A5d k id (by omega);have hql:=A4K k;have hjm:=B36 o.kids o.keys i x k hx hk;have hst:((jM o.keys o.kids).map AV.str).take (i+1)=((jM o.keys o.kids).map AV.str).take i++[.str (V6 k++[58]++jS x)]:=I7 (by simp[hjm]);refine D5 (by simp[k5]) ?_;simp[hk];refine⟨by omega,?_⟩;(refine yH rfl (hQk _) ?_; simp);have hqz:(V6 k).length=(qL k).length+2:=(by simp[V6]);refine⟨by omega,by omega,⟨by omega,by omega,by omega⟩,?_⟩;refine hp _ (i+1) h (by omega) ?_;refine yV [(E.n0,E.n0),(E.n0+1,E.n0+27650)] (by simp[hi1,hst]) fun hrn=>⟨?_,?_,?_,?_,?_⟩<;>(try simp[hi1,hst]);exact F7 rfl (I5 (A81 (O6 _) _) rfl)
   ·have h:¬i<o.kids.length:=zq h;have hil:i=o.kids.length:=(by omega);have hka:((jM o.keys o.kids).map AV.str).take i=(jM o.keys o.kids).map AV.str:=zn (by simp; omega);have hle:i<=(jM o.keys o.kids).length:=(by omega);have hJo:=fun id=>A9g (jM o.keys o.kids) [44] id (by omega) (by simp at hJl; omega);simp;refine D5 (by simp[k5]) ?_;simp[hka];(refine A1c hP rfl (hJo _) (by simp[hka,hle]<;>rfl) (by simp[hka,hle]) (by simp[hka,hle]<;>rfl) (by simp[hka,hle]) ?_; refine A6 4000 ?_; simp[hka,hle]);refine⟨by simp at hJl; omega,by simp at hJl; omega,?_⟩;exact yP hR
  ·rw[zh k5] at hJ;rw[hJ] at hR hJl;have hjl:(jL o.kids).length=o.kids.length:=(by rw[A4L]; simp);have hst0:∀i:Nat,(jL o.kids).take i=if i=0 then [] else (jL o.kids).take i:=fun i=>by split<;>simp_all
   refine C8 (X:=Nat) (fun i=>⟨[(1,true,.ptr E.n0 0 0),(3,true,.str ([91,93])),(4,true,.bsl (E.n0+1) 0 i),(23,true,.sl (o.kids.map eO)),(24,true,.int .i64 o.kids.length),(25,true,.int .i64 i)],
    [(E.n0,some ⟨[.agg [.int .i64 o.kind,.int .i64 o.n,.str o.text,.sl (o.keys.map .str),.sl (o.kids.map eO)]],.agg [.int .i64 o.kind,.int .i64 o.n,.str o.text,.sl (o.keys.map .str),.sl (o.kids.map eO)],false,false⟩),(E.n0+1,some ⟨((jL o.kids).map AV.str).take i,.str [],false,false⟩)],2⟩)
    (fun i=>i<=o.kids.length) (fun i=>o.kids.length - i) 0 ?_ (by omega) ?_
   ·refine H0.trans (H0.voidSlot 4 (x:=.nils) (y:=.bsl (E.n0+16384) 0 0) (by simp) .nils (.str [])) ?_;refine yV [(E.n0,E.n0),(E.n0+1,E.n0+16384)] (by simp) fun hrn=>⟨?_,?_,?_,?_,?_⟩<;>(try simp)
   rintro i hi p hp;refine A6 4000 ?_;simp;refine C9 (fun h=>?_) (fun h=>?_)
   ·have h:=zp h;obtain⟨x,hx,hd⟩:=B6 h;have hi1:IntKind.i64.wrap ((i:Int)+1)=((i+1:Nat):Int):=wrap64 (by omega);have hxm:=zf hx;have hxz:=x5 hxm;have hxl:=A6Z (x.sz+1) x (wq _) (h2 x hxm);have ih:=fun id=>A2S m x id (by omega) (by omega) (h2 x hxm);rw[Q5 x] at ih;simp[hx,Q5 x];refine⟨h,?_⟩;(refine yH rfl (ih _) ?_; simp);have hst:((jL o.kids).map AV.str).take (i+1)=((jL o.kids).map AV.str).take i++[.str (jS x)]:=I7 (by rw[A4L]; simp[hx]);refine A0 (by simp[k5]) ?_;simp;refine⟨⟨by omega,by omega,by omega⟩,?_⟩;refine hp _ (i+1) h (by omega) ?_;refine yV [(E.n0,E.n0),(E.n0+1,E.n0+16386)] (by simp[hi1,hst]) fun hrn=>⟨?_,?_,?_,?_,?_⟩<;>(try simp[hi1,hst]);exact F7 rfl (I5 (A81 (O6 _) _) rfl)
   ·have h:¬i<o.kids.length:=zq h;have hil:i=o.kids.length:=(by omega);have hka:((jL o.kids).map AV.str).take i=(jL o.kids).map AV.str:=zn (by simp; omega);have hle:i<=(jL o.kids).length:=(by omega);have hJo:=fun id=>A9g (jL o.kids) [44] id (by omega) (by simp at hJl; omega);simp;refine A0 (by simp[k5]) ?_;simp[hka];(refine A1c hP rfl (hJo _) (by simp[hka,hle]<;>rfl) (by simp[hka,hle]) (by simp[hka,hle]<;>rfl) (by simp[hka,hle]) ?_; refine A6 4000 ?_; simp[hka,hle]);refine⟨by simp at hJl; omega,by simp at hJl; omega,?_⟩;exact yP hR
def A1M(o:H3):List UInt8:=if A4J o=0 then jS o else []
theorem B0q(o:H3)(id:Nat)(h8:o.sz<=100000000000)(hk:okO o):A2 Tryz.prog 22 [eO o] [] id (.tup [.str (A1M o),.int .i64 (A4J o)]) []:=by
 have hC:=fun id=>A5c o id (by omega) hk;have hB:=fun (h:j7 o=0) id=>A2S (o.sz+1) o id (by omega) h8 h;rw[Q5 o] at hC hB ⊢;refine w22.e.1 fun E hP hR hl hid=>?_;simp[w22];(refine yH rfl (hC _) ?_; simp);refine C9 (fun g=>?_) (fun g=>?_)<;>simp
 ·have g:A4J o≠0:=by simpa using g
  have hf:A1M o=[]:=by unfold A1M; rw[zh g]
  rw[hf] at hR;exact yP hR
 ·have g:A4J o=0:=by simpa using g
  have hf:A1M o=jS o:=by unfold A1M; rw[zk g]
  have hz:j7 o=0:=by
   unfold A4J at g;split at g
   ·cases g
   ·exact g
  have hB1:=hB hz;rw[hf,g] at hR;(refine yH rfl (hB1 _) ?_; simp);exact yP hR
def lookW:List D7:=[.mk [] [65] [] [.mk [] [105,100] [] [],.mk [107] [108] [⟨[102,105,114,115,116],false,[],1⟩] [.mk [] [110] [] []],.mk [] [98] [] [.mk [] [109] [] []]]]
theorem B37:M0 tyW lookW=0:=by decide
theorem B4K:o8 lookW=7:=by decide
theorem B38(id:Nat):A2 Tryz.prog 43 [] [] id (.sl [.agg [.str [],.str [65],.nils,.sl [.agg [.str [],.str [105,100],.nils,.nils],.agg [.str [107],.str [108],.sl [.agg [.str [102,105,114,115,116],.bool false,.str [],.int .i64 1]],.sl [.agg [.str [],.str [110],.nils,.nils]]],.agg [.str [],.str [98],.nils,.sl [.agg [.str [],.str [109],.nils,.nils]]]]]]) []:=by
 refine w43.e.1 fun E hP hR hl hid=>?_;simp[w43];have hrn:I0 []:=by simp[B2 hid]
 rw[hR];refine n9 (by simp<;>rfl) (by simp[B2 hid]<;>exact⟨rfl,rfl⟩) [] hrn ⟨?_,?_,?_,?_,?_,?_⟩<;>(try simp[B2 hid]);exact A5 _ rfl
theorem B4L(id:Nat):A2 Tryz.prog 43 [] [] id (.sl (lookW.map D0)) []:=(B38 id).nrm
def outW:H3:=l3 [[65]] [P3 [l3 [[105,100],[107],[98]] [A0L 3,P3 [l3 [[110]] [A0L 5]],l3 [[109]] [A0L (-1)]],l3 [[105,100],[107],[98]] [A0L 4,P3 [],A0G]]]
theorem q_o:qO stW lookW=outW:=by
 simp[qO,lookW,outW,l3,P3,A0L,A0G,rtO,Q4,stW,tyW,A8,B7,thO,thA,C3,B3,bs,F4,S5,w0,oL,oS,B8,A7a,C2,o7,A0f,cl0,D7.alias,D7.name,D7.args,D7.kids]
theorem q_w:qW stW lookW=13:=by
 simp[qW,A8e,lookW,rtW,Q4,stW,tyW,A8,B7,thW,thA,C3,B3,bs,F4,S5,w0,wL,wS,A7a,C2,o7,A0f,cl0,D7.alias,D7.name,D7.args,D7.kids]
theorem B39:A4J outW=0:=by decide
theorem B4d:okO outW:=by simp[okO,B2y,outW,l3,P3,A0L,A0G]
theorem B6J:outW.sz<=1000:=by decide
def B4M:List UInt8:=[123,34,65,34,58,91,123,34,105,100,34,58,51,44,34,107,34,58,91,123,34,110,34,58,53,125,93,44,34,98,34,58,123,34,109,34,58,45,49,125,125,44,123,34,105,100,34,58,52,44,34,107,34,58,91,93,44,34,98,34,58,110,117,108,108,125,93,125]
theorem B6h:jS outW=B4M:=by
 simp[jS,jM,jL,outW,l3,P3,A0L,A0G,V6,qL,qBj,Lib.join,Lib.itoa,Lib.decDigits,B4M,List.intercalate,List.intersperse]
theorem B3A:eO outW = .agg [.int .i64 5,.int .i64 0,.str [],.sl (outW.keys.map .str),.sl (outW.kids.map eO)]:=Q5 outW
theorem A6a(id:Nat):A2 Tryz.prog 12 [] [] id (.bool true) []:=by
 have hf:U4 stW lookW=0:=by
  unfold U4;rw[zh (by rw[B2q]; decide),zh (by rw[show stW.types=tyW from rfl,B37]; decide),zk (by rw[q_w]; decide)]
 have hQ:=fun id=>B2C stW lookW id (by rw[B4K]; omega);rw[show A43 stW lookW=eO outW by unfold A43; rw[zk hf,q_o],hf] at hQ;have hPr:=fun id=>B0q outW id (by have:=B6J; omega) B4d;rw[show A1M outW=B4M by unfold A1M; rw[zk B39,B6h],B39] at hPr;have hC:=fun id=>A5c outW id (by have:=B6J; omega) B4d;rw[B39] at hC;rw[B3A] at hQ hPr hC;generalize outW.keys=ks at *;generalize outW.kids=ls at *;unfold B4M at hPr;refine w12.e.1 fun E hP hR hl hid=>?_;simp[w12];(refine yH rfl (A7x _) ?_; simp);(refine yH rfl (B4L _) ?_; simp);(refine yH rfl (hQ _) ?_; simp);(refine yH rfl (hPr _) ?_; simp);(refine yG rfl (hC _) ?_; simp);exact yP hR
theorem A2r{α:Type}{p:α->Bool}:∀(l:List α) (i j:Nat) (x:α),l[i]?=some x->p x=true->(l.take i).any p=false->B7 p l j=((j+i:Nat):Int)/\l.find? p=some x
 | [],i,j,x,h,_,_=>by simp at h
 | y::r,0,j,x,h,hp,_=>by
  simp at h; subst h;exact⟨by simp[B7,hp],by simp[hp]⟩
 | y::r,i+1,j,x,h,hp,hn=>by
  simp only[wn,List.any_cons,wy] at hn;obtain⟨h1,h2⟩:=A2r r i (j+1) x (by simpa using h) hp hn.2;refine⟨?_,by rw[List.find?_cons,hn.1]; exact h2⟩;rw[B7,zh (by simp[hn.1]),h1]; congr 1; omega
theorem B3B{l:List Ty}(h:F8 l=0){i:Nat}{t:Ty}(hi:l[i]?=some t):A8 l t.name=(i:Int)/\V0 l t.name=some t/\B9 (fun k f=>R4 l f (t.fields.take k)) t.fields 0=0:=by
 unfold F8 at h;split at h
 ·cases h
 split at h
 ·cases h
 have h0:=A2R h i t hi;rw[yu] at h0;unfold j3 at h0;split at h0
 ·rename_i g; exact (g h0).elim
 split at h0
 ·cases h0
 split at h0
 ·cases h0
 rename_i g3;split at h0
 ·cases h0
 split at h0
 ·cases h0
 have hno:(l.take i).any (fun x=>x.name==t.name)=false:=by simpa [A4U] using g3
 obtain⟨q1,q2⟩:=A2r (p:=fun x:Ty=>x.name==t.name) l i 0 t hi (by simp) hno;exact⟨by unfold A8; rw[q1]; simp,q2,h0⟩
end Go.Am
namespace Go.Am
open Go Go.RowKit
theorem H0.nrmBox{E:R9}{σ:St}(j:Nat){b:Bx}(hb:bk σ.bx j=some b):H0 E σ ⟨σ.fr,(j,some { b with xs:=b.xs.map AV.nrm })::σ.bx,σ.k⟩:=fun G a w hD=>by
 have hbj:=U1 E.β hb;have r4:RS E.C G (ov E.β ((j,some { b with xs:=b.xs.map AV.nrm })::σ.bx)) w:=by
  refine⟨hD.rs.below,hD.rs.size,hD.rs.fzok,hD.rs.fzold,fun i b' hi hn=>?_,fun i b' hi hn=>?_,hD.rs.nlu,hD.rs.used,hD.rs.inj,hD.rs.rows⟩
  ·by_cases hij:i=j
   ·subst hij;simp only[ov,B5,zc] at hi;subst hi;obtain⟨blk,s,cur,e,k1,k2,k3,k4,k5,k6,k7⟩:=hD.rs.box i b hbj hn;refine⟨blk,s,cur,e,k1,k2,k3,⟨k4.1,by simpa using k4.2⟩,fun i' y' hy'=>?_,k6,by simpa using k7⟩;obtain⟨x0,hx0,rfl⟩:=S7 hy';obtain⟨d1,d2⟩:=k5 i' x0 hx0;rw[w6];refine⟨by simpa using d1,fun m z hz=>?_⟩;obtain⟨z0,hz0,rfl⟩:=S7 hz;obtain⟨u,hu1,hu2⟩:=d2 m z0 hz0;exact⟨u,hu1,hu2.nrm⟩
   ·simp only[ov,A7 _ _ _ hij] at hi;exact hD.rs.box i b' hi hn
  ·by_cases hij:i=j
   ·subst hij;simp only[ov,B5,zc] at hi;subst hi;obtain⟨h1,h2⟩:=hD.rs.nil i b hbj hn;exact⟨by simp[h1],h2⟩
   ·simp only[ov,A7 _ _ _ hij] at hi;exact hD.rs.nil i b' hi hn
 exact⟨G,hD.ev,r4,hD.used,hD.old,hD.fr,hD.size,hD.defers⟩
end Go.Am
namespace Go.Am
open Go Go.Proofs Go.RowKit
theorem B6K(al tn:List UInt8)(ar:List Ag):mB (qC al tn ar)=⟨[.agg [.str al,.str tn,.sl (ar.map x1),.sl [.agg [.str [],.str [105,100],.sl [],.sl []],.agg [.str [105,100,50],.str [105,100],.sl [],.sl []]]]],.agg [.str [],.str [],.nils,.nils],false,false⟩:=by
 rw[A0c]; rfl
theorem B6L{s:F1}(x:D7):eO (qO s [x]) = .agg [.int .i64 5,.int .i64 0,.str [],.sl [.str (B8 x)],.sl [eO (rtO s x)]]:=by
 unfold qO l3; rw[Q3]; rfl
theorem B3C(tn:List UInt8)(ar:List Ag):B8 (qC [] tn ar)=tn:=by simp[B8,qC,D7.alias,D7.name]
theorem A82(tn:List UInt8)(ar:List Ag):B8 (qC A4X tn ar)=A4X:=by simp[B8,qC,D7.alias,A4X]
theorem B6i(l:List Tg):(P3 (l.map oC)).sz=1+5*l.length:=by
 have h:Z7 (l.map oC)=5*l.length:=by
  induction l with
  | nil=>rfl
  | cons a r ih=>simp only[yd,Z7,ih,yz]; simp[oC,l3,A0L,H3.sz,Z7]; omega
 unfold P3;simp[H3.sz,h]
theorem B6M(l:List H3):eO (P3 l) = .agg [.int .i64 4,.int .i64 0,.str [],.sl [],.sl (l.map eO)]:=by unfold P3; rw[Q3]; rfl
theorem Rd.ownC{L:List (Nat×Bx)}{id n:Nat}{b:Bx}(hb:(id,b)∈L)(hn:b.xs.length=n):Rd L (.bsl id 0 n) (.sl b.xs) :=
 .bsl id 0 n b b.xs hb (by omega) hn (fun i x y hx hy=>by rw[yu,hy] at hx; injection hx with hx; rw[hx]) (fun i x y j c d hx hy hc hd=>by rw[yu,hy] at hx; injection hx with hx; subst hx; rw[hc] at hd; injection hd with hd; rw[hd]; exact .same _)
theorem B5a(t:Tg):eO (oC t) = .agg [.int .i64 5,.int .i64 0,.str [],.sl [.str [105,100],.str [105,100,50]],.sl [.agg [.int .i64 2,.int .i64 t.id,.str [],.sl [],.sl []],.agg [.int .i64 2,.int .i64 t.id,.str [],.sl [],.sl []]]]:=rfl
theorem B6N(x:Int):[(⟨o7,false,[],x⟩:Ag)].map x1=[.agg [.str [105,100],.bool false,.str [],.int .i64 x]]:=rfl
theorem A4e(hB:∀id,A2 Tryz.prog 12 [] [] id (.bool true) [])(s:F1)(kind:Int)(id:Nat):A2 Tryz.prog 5 [B4 s,.int .i64 kind] [] id (.bool true) []:=by
 have hD:=fun id=>A4b id;have hSt:=fun id=>R6 s id;by_cases h1:fSt s=0
 rotate_left
 ·generalize fSt s=e at *;unfold B4 at *;refine w5.e.1 fun E hP hR hl hid=>?_;simp[w5];(refine yH rfl (hB _) ?_; simp);(refine yG rfl (hD _) ?_; simp);(refine yC rfl (hSt _) ?_; simp[h1]);refine D5 (by simp[h1]) ?_;simp;exact yP hR
 rw[h1] at hSt;by_cases hk:0<=kind/\kind<s.types.length
 rotate_left
 ·unfold B4 at *;refine w5.e.1 fun E hP hR hl hid=>?_;simp[w5];(refine yH rfl (hB _) ?_; simp);(refine yG rfl (hD _) ?_; simp);(refine yH rfl (hSt _) ?_; simp);refine D5 (by
   have:kind<0\/(s.types.length:Int)<=kind:=by omega
   rcases this with h|h<;>simp[h]) ?_
  simp;exact yP hR
 obtain⟨k,rfl⟩:∃k:Nat,kind=(k:Int):=⟨kind.toNat,by omega⟩;have hk2:k<s.types.length:=by omega
 obtain⟨ty,hty⟩:∃ty,s.types[k]?=some ty:=⟨_,zd hk2⟩;have hty2:s.types[k]=ty:=by
  rw[zd hk2] at hty;injection hty
 have hsL:=B5K h1;have hsc:=hsL.r.sch;have hI:∀t∈s.things,I64 t.id:=fun t ht=>by have:=hsL.r.tg t ht; unfold I64; have:=this.id1; have:=(hsL.r.tg t ht).id2; omega
 have hcT:F8 s.types=0:=by
  unfold fSt at h1;split at h1
  ·rename_i g; exact (g h1).elim
  ·rename_i g; exact zm g
 obtain⟨t1,t2,_⟩:=B3B hcT hty;have hkd : -1<=(k:Int)/\(k:Int)<=5:=by have:=hsc.len; omega
 have hnm:=hsc.names ty (zf hty);have hQa:=fun M id=>A1H (s:=s) (qC [] ty.name []) M h1 (B5M hcT t2 hnm (.inl rfl) (by decide) (by decide)) (B5L hsL.r.len _ _ _) id;have hQb:=fun M id=>A1H (s:=s) (qC A4X ty.name []) M h1 (B5M hcT t2 hnm (.inr rfl) (by decide) (by decide)) (B5L hsL.r.len _ _ _) id;have hS:=fun id=>A6K ((P3 ((s.things.filter fun t=>t.type==(k:Int)).map oC)).sz+1) (P3 ((s.things.filter fun t=>t.type==(k:Int)).map oC)) (P3 ((s.things.filter fun t=>t.type==(k:Int)).map oC)) id (by omega) (by
  have hl:=vw (fun t:Tg=>t.type==(k:Int)) s.things;have h12:=hsL.r.len;rw[B6i]; omega)
 rw[vu rfl] at hS;simp only[B6M,xv] at hS;simp only[B6K,B6L,B3C,A82,B69 hsL hkd t1 hI,B6M,ww] at hQa hQb;unfold A4X at hQb;generalize hLs:s.things.filter (fun t=>t.type==(k:Int))=Ls at *;unfold B4 at *;refine w5.e.1 fun E hP hR hl hid=>?_;simp[w5];(refine yH rfl (hB _) ?_; simp);(refine yG rfl (hD _) ?_; simp);have hk3:((k:Int)<0)=False:=by simp
 have hk4:(s.types.length<=k)=False:=by simp; omega
 refine C6 hP rfl (hSt _) (by simp) (by simp<;>rfl) ?_;refine A6 115 ?_;simp[hk2,hty2,H6,hk3,hk4];refine A23 (H0.nrmBox (E.n0+34816) (by simp; rfl)) ?_;refine A6 4000 ?_;simp[AV.nrm,A1h];(refine yH rfl (hQa _ _) ?_; simp);(refine yH rfl (hQb _ _) ?_; simp);(refine yG rfl (hS _) ?_; simp);have hn0:∀i,((s.things.take i).filter fun t=>t.type==(k:Int)).length<=Ls.length:=fun i=>by
  rw[←hLs];have:=vo (p:=fun t:Tg=>t.type==(k:Int)) (s.things.take i) (s.things.drop i);rw[xa] at this;rw[this,yy]; omega
 refine C8 (X:=Nat×List Ag) (fun q=>⟨[(1,true,.int .i64 k),(2,true,.ptr E.n0 0 0),(6,true,.bsl (E.n0+1) 0 1),(7,true,.ptr (E.n0+2) 0 0),(11,true,.int .i64 ((s.things.take q.1).filter fun t=>t.type==(k:Int)).length),(12,true,.int .i64 q.1)],
  [(E.n0,some ⟨[.agg [.sl (s.types.map H6),.sl (s.things.map M5)]],.agg [.sl (s.types.map H6),.sl (s.things.map M5)],false,false⟩),
   (E.n0+1,some ⟨[.agg [.str [111,116,104,101,114],.str ty.name,.sl (q.2.map x1),.sl [.agg [.str [],.str [105,100],.sl [],.sl []],.agg [.str [105,100,50],.str [105,100],.sl [],.sl []]]]],.agg [.str [],.str [],.nils,.nils],false,false⟩),
   (E.n0+2,some ⟨[.agg [.int .i64 5,.int .i64 0,.str [],.sl [.str ty.name],.sl [.agg [.int .i64 4,.int .i64 0,.str [],.sl [],.sl (Ls.map (eO∘oC))]]]],.agg [.int .i64 0,.int .i64 0,.str [],.nils,.nils],false,false⟩)],3⟩)
  (fun q=>q.1<=s.things.length) (fun q=>s.things.length - q.1) (0,[]) ?_ (by simp) ?_
 ·refine yV [(E.n0,E.n0),(E.n0+1,E.n0+34816),(E.n0+2,E.n0+43008)] (by simp) fun hrn=>⟨?_,?_,?_,?_,?_⟩<;>(try simp);all_goals exact⟨A5 _ rfl,A5 _ rfl,A5 _ (by simp[E7,AV.pureB]; exact D6 (fun _=>W5 _) _)⟩
 rintro⟨i,ar⟩ hi p hp;simp only at hi hp;rcases yt i s.things.length with hlt|hge
 rotate_left
 ·have hil:i=s.things.length:=by omega
  subst hil;refine A6 4000 ?_;simp;exact yP hR (h1:=by simp; rw[hLs])
 ·obtain⟨t,ht,hd⟩:=B6 hlt;have hli:s.things[i]=t:=by
   rw[zd hlt] at ht;injection ht
  have hi1:IntKind.i64.wrap ((i:Int)+1)=((i+1:Nat):Int):=wrap64 (by have:=hsL.r.len; omega);have htk:s.things.take (i+1)=s.things.take i++[t]:=by rw[xw,ht]; rfl
  by_cases g0:t.type=(k:Int)
  rotate_left
  ·refine A6 4000 ?_;simp[hlt,hli,M5];refine D5 (by simpa using g0) ?_;have g:(t.type !=(k:Int))=true:=(by simpa using g0);simp[hi1];refine hp _ (i+1,ar) (by simp only; omega) (by simp only; omega) ?_;have hfl:((s.things.take (i+1)).filter fun t=>t.type==(k:Int))=(s.things.take i).filter fun t=>t.type==(k:Int):=by
    rw[htk,vo]; simp at g; simp[g]
   refine yV [(E.n0,E.n0),(E.n0+1,E.n0+1),(E.n0+2,E.n0+2)] (by simp[hfl]) fun hrn=>⟨?_,?_,?_,?_,?_⟩<;>(try simp[hfl]);all_goals exact⟨A5 _ rfl,A5 _ rfl,A5 _ (by simp[E7,AV.pureB]; exact D6 (fun _=>W5 _) _)⟩
  ·have hbd:1<=t.id/\t.id<=999:=⟨(hsL.r.tg t (zf ht)).id1,(hsL.r.tg t (zf ht)).id2⟩;have hQc:=fun M id=>A1H (s:=s) (qC A4X ty.name [⟨o7,false,[],t.id⟩]) M h1 (B5M hcT t2 hnm (.inr rfl) (B2G hbd).1 (B2G hbd).2) (B5L hsL.r.len _ _ _) id;have hSt:=fun id=>A6K ((oC t).sz+1) (oC t) (oC t) id (by omega) (by simp[oC,l3,A0L,H3.sz,Z7]);rw[vu rfl] at hSt;simp only[B6K,B6L,A82,B6A hsL hkd t1 (zf ht) g0 (hI t (zf ht)),B6N,B5a] at hQc;rw[B5a] at hSt;unfold A4X at hQc;have hfl:((s.things.take (i+1)).filter fun t=>t.type==(k:Int))=(s.things.take i).filter (fun t=>t.type==(k:Int))++[t]:=by
    rw[htk,vo]; simp[g0]
   have hlen:((s.things.take i).filter fun t=>t.type==(k:Int)).length+1<=Ls.length:=by
    have:=hn0 (i+1);rw[hfl,yy] at this;exact this
   have hget:Ls[((s.things.take i).filter fun t=>t.type==(k:Int)).length]?=some t:=by
    have hsp:Ls=(s.things.take i).filter (fun t=>t.type==(k:Int))++([t]++(s.things.drop (i+1)).filter fun t=>t.type==(k:Int)):=by
     rw[←xg,←hfl,←vo,xa,hLs]
    rw[hsp,ya (yg _)];simp
   generalize hn:((s.things.take i).filter fun t=>t.type==(k:Int)).length=n at *;refine A6 123 ?_;simp[hlt,hli,M5,g0];refine A23 (H0.deepBox (E.n0+1) [(E.n0+21507,⟨[.agg [.str [105,100],.bool false,.str [],.int .i64 t.id]],.agg [.str [],.bool false,.str [],.int .i64 0],false,false⟩)]
    [(E.n0,some ⟨[.agg [.sl (s.types.map H6),.sl (s.things.map M5)]],.agg [.sl (s.types.map H6),.sl (s.things.map M5)],false,false⟩),
     (E.n0+2,some ⟨[.agg [.int .i64 5,.int .i64 0,.str [],.sl [.str ty.name],.sl [.agg [.int .i64 4,.int .i64 0,.str [],.sl [],.sl (Ls.map (eO∘oC))]]]],.agg [.int .i64 0,.int .i64 0,.str [],.nils,.nils],false,false⟩)]
    (x:=.agg [.str [111,116,104,101,114],.str ty.name,.bsl (E.n0+21507) 0 1,.sl [.agg [.str [],.str [105,100],.sl [],.sl []],.agg [.str [105,100,50],.str [105,100],.sl [],.sl []]]]) (y:=.agg [.str [111,116,104,101,114],.str ty.name,.sl [.agg [.str [105,100],.bool false,.str [],.int .i64 t.id]],.sl [.agg [.str [],.str [105,100],.sl [],.sl []],.agg [.str [105,100,50],.str [105,100],.sl [],.sl []]]])
    (by simp; rfl) rfl rfl (fun m c d h1 h2=>?_) (fun q hq=>?_) ⟨fun y b hb=>?_,fun q hq=>?_⟩ (fun q hq=>?_)) ?_
   ·match m,h1,h2 with
    | 0,h1,h2|1,h1,h2|3,h1,h2=>simp at h1 h2; rw[←h1,←h2]; exact .same _
    | 2,h1,h2=>simp at h1 h2; rw[←h1,←h2]; exact Rd.ownC (b:=⟨[.agg [.str [105,100],.bool false,.str [],.int .i64 t.id]],.agg [.str [],.bool false,.str [],.int .i64 0],false,false⟩) (by simp) rfl
    | m+4,h1,h2=>simp at h1
   ·simp at hq;obtain rfl:=hq;simp
   ·simp at hb ⊢;split at hb
    ·rename_i e; subst e; injection hb with hb; subst hb; simp
    ·split at hb
     ·rename_i e; subst e; injection hb with hb; subst hb; simp
     ·cases hb
   ·simp at hq;rcases hq with h|h|h|h|h<;>subst h<;>simp
   ·simp at hq;obtain rfl:=hq;simp
   refine A6 4000 ?_;simp;have hnl:n<Ls.length:=(by omega);have hn1:IntKind.i64.wrap ((n:Int)+1)=((n+1:Nat):Int):=wrap64 (by have:=hsL.r.len; have:=vw (fun t:Tg=>t.type==(k:Int)) s.things; rw[hLs] at this; omega);(refine yH rfl (hQc _ _) ?_; simp);have hgt:Ls[n]=t:=by
    rw[zd hnl] at hget;injection hget
   have hnl2:decide (Ls.length<=n)=false:=(by simpa using hnl);simp[hnl,hget,hgt,hnl2,B5a];(refine K3 hP (by simp[hlt,hli,M5,g0,hi1,hn1,hgt,hnl2]) rfl (fun hc=>⟨hSt _,by revert hc; simp[hlt,hli,M5,g0,hi1,hn1,hgt,hnl2]; try grind,by simp[hlt,hli,M5,g0,hi1,hn1,hgt,hnl2]⟩) ?_; refine A6 4000 ?_; simp[hlt,hli,M5,g0,hi1,hn1,hgt,hnl2]);refine hp _ (i+1,[⟨o7,false,[],t.id⟩]) (by simp only; omega) (by simp only; omega) ?_;have hcast:((n+1:Nat):Int)=(n:Int)+1:=(by omega);have hlen1:(((s.things.take (i+1)).filter fun t=>t.type==(k:Int)).length:Int)=(n:Int)+1:=by
    rw[hfl,yy,uw,hn]; omega
   have hag:x1 ⟨o7,false,[],t.id⟩ = .agg [.str [105,100],.bool false,.str [],.int .i64 t.id]:=rfl;refine yV [(E.n0,E.n0),(E.n0+1,E.n0+1),(E.n0+2,E.n0+2)] (by simp[hlen1,hag]) fun hrn=>⟨?_,?_,?_,?_,?_⟩<;>(try simp[hlen1,hag]);all_goals exact⟨⟨A5 _ rfl,A5 _ rfl⟩,A5 _ rfl,A5 _ (by simp[E7,AV.pureB]; exact D6 (fun _=>W5 _) _)⟩
theorem A4f(s:F1)(kind:Int)(id:Nat):A2 Tryz.prog 5 [B4 s,.int .i64 kind] [] id (.bool true) []:=A4e (fun id=>A6a id) s kind id
end Go.Am
namespace Go.Proofs.YtphjabjjnncebaaGreatDoor
open Go Go.Am Go.RowKit
theorem Tryz.own:ownKnob Tryz.prog.godebug=none:=by kernel_rfl
theorem Tryz.laidOut:laidOutB Tryz.prog=true:=by kernel_rfl
noncomputable def tys(fn:Func):List TypeId:=B1a Tryz.prog 8 fn.params.toList
theorem p9{α:Type}{f:α->AV}{p:α->Prop}:∀{xs:List AV},(∀y∈xs,∃a,y=f a/\p a)->∃l:List α,xs=l.map f/\∀a∈l,p a
 | [],_=>⟨[],rfl,fun a h=>by cases h⟩
 | y::r,h=>by
  obtain⟨a,rfl,ha⟩:=h y (by simp);obtain⟨l,rfl,hl⟩:=p9 (xs:=r) fun z hz=>h z (by simp[hz]);exact⟨a::l,rfl,fun b hb=>by
   rcases zi.1 hb with rfl|hb
   ·exact ha
   ·exact hl b hb⟩
theorem A1v{n:Nat}{x:AV}(h:U8 Tryz.prog n 3 x):∃m,x = .int .i64 m/\I64 m:=by
 obtain⟨m,rfl,hw⟩:=A3j Tryz.underlying3 h;exact⟨m,rfl,B09 hw⟩
theorem B4N{n:Nat}{x:AV}(h:U8 Tryz.prog n 122 x):∃f:Am.Fd,x=M4 f:=by
 obtain⟨m,ys,rfl,rfl,h0⟩:=A1g Tryz.underlying122 h;obtain⟨a,ys,rfl,ha,h0⟩:=H1 h0;obtain⟨b,ys,rfl,hb,h0⟩:=H1 h0;obtain⟨c,ys,rfl,hc,h0⟩:=H1 h0;obtain rfl:=c6 h0;obtain⟨a,rfl,_⟩:=A1e Tryz.underlying9 ha;obtain⟨b,rfl,_⟩:=A3j Tryz.underlying3 hb;obtain⟨c,rfl,_⟩:=A1e Tryz.underlying9 hc;exact⟨⟨a,b,c⟩,rfl⟩
theorem B4O{n:Nat}{x:AV}(h:U8 Tryz.prog n 62 x):∃t:Am.Ty,x=H6 t:=by
 obtain⟨m,ys,rfl,rfl,h0⟩:=A1g Tryz.underlying62 h;obtain⟨a,ys,rfl,ha,h0⟩:=H1 h0;obtain⟨b,ys,rfl,hb,h0⟩:=H1 h0;obtain rfl:=c6 h0;obtain⟨a,rfl,_⟩:=A1e Tryz.underlying9 ha;obtain⟨k,xs,rfl,rfl,hl,hx⟩:=A1f Tryz.underlying60 hb;obtain⟨l,rfl⟩:=A1D fun y hy=>B4N (hx y hy);exact⟨⟨a,l⟩,rfl⟩
theorem B3D{n:Nat}{x:AV}(h:U8 Tryz.prog n 22 x):∃l:List Am.Ty,x = .sl (l.map H6):=by
 obtain⟨k,xs,rfl,rfl,hl,hx⟩:=A1f Tryz.underlying22 h;obtain⟨l,rfl⟩:=A1D fun y hy=>B4O (hx y hy);exact⟨l,rfl⟩
theorem B4P{n:Nat}{x:AV}(h:U8 Tryz.prog n 108 x):∃c:Cl,x=t8 c/\∀y∈c.ids,I64 y:=by
 obtain⟨m,ys,rfl,rfl,h0⟩:=A1g Tryz.underlying108 h;obtain⟨a,ys,rfl,ha,h0⟩:=H1 h0;obtain⟨b,ys,rfl,hb,h0⟩:=H1 h0;obtain⟨c,ys,rfl,hc,h0⟩:=H1 h0;obtain rfl:=c6 h0;obtain⟨a,rfl,_⟩:=A1v ha;obtain⟨b,rfl,_⟩:=A1e Tryz.underlying9 hb;obtain⟨k,xs,rfl,rfl,hl,hx⟩:=A1f Tryz.underlying106 hc;obtain⟨l,rfl,hp⟩:=p9 (f:=eI) (p:=I64) fun y hy=>A1v (hx y hy);exact⟨⟨a,b,l⟩,rfl,hp⟩
theorem B4Q{n:Nat}{x:AV}(h:U8 Tryz.prog n 66 x):∃t:Tg,x=M5 t/\∀c∈t.cells,∀y∈c.ids,I64 y:=by
 obtain⟨m,ys,rfl,rfl,h0⟩:=A1g Tryz.underlying66 h;obtain⟨a,ys,rfl,ha,h0⟩:=H1 h0;obtain⟨b,ys,rfl,hb,h0⟩:=H1 h0;obtain⟨c,ys,rfl,hc,h0⟩:=H1 h0;obtain rfl:=c6 h0;obtain⟨a,rfl,_⟩:=A1v ha;obtain⟨b,rfl,_⟩:=A1v hb;obtain⟨k,xs,rfl,rfl,hl,hx⟩:=A1f Tryz.underlying64 hc;obtain⟨l,rfl,hp⟩:=p9 fun y hy=>B4P (hx y hy);exact⟨⟨a,b,l⟩,rfl,hp⟩
theorem B3E{n:Nat}{x:AV}(h:U8 Tryz.prog n 29 x):∃s:F1,x=B4 s/\B6g s:=by
 obtain⟨m,ys,rfl,rfl,h0⟩:=A1g Tryz.underlying29 h;obtain⟨a,ys,rfl,ha,h0⟩:=H1 h0;obtain⟨b,ys,rfl,hb,h0⟩:=H1 h0;obtain rfl:=c6 h0;obtain⟨l,rfl⟩:=B3D ha;obtain⟨k,xs,rfl,rfl,hl,hx⟩:=A1f Tryz.underlying27 hb;obtain⟨ts,rfl,hp⟩:=p9 fun y hy=>B4Q (hx y hy);exact⟨⟨l,ts⟩,rfl,hp⟩
theorem A6b{W:World}{a b:String×DataW Unit}{name:String}{k:IntKind}{zs:List Int}{g:Nat}{t e:TypeId}{n:Nat}
  (hg:Tryz.prog.globalNamed name=some g) (hty:(Tryz.prog.globals[g]?).map (·.type)=some t) (ht:Tryz.prog.underlying t=some (.array n e)) (he:Tryz.prog.underlying e=some (.int k)) (hce:Tryz.prog.cellsOf e=1) (hct:Tryz.prog.cellsOf t=n)
  (h:laidMet Tryz.prog [a,b,(name,Lib.tabData k zs)] W):Lib.TabIs Tryz.prog W name k zs:=by
 obtain⟨ps,⟨_,_,_,_,_,_,_,_,_,_,⟨_,_,_,_,_,_,_,_,_,_,⟨g',t',cs,fuel,p,q,hg',ht',hvar,hd,_,_⟩,_⟩,_⟩,_⟩:=h;obtain rfl:=vj (hg.symm.trans hg');obtain rfl:=vj (hty.symm.trans ht');unfold Lib.TabIs;rw[hvar,←Lib.cells_of_tab ht he hce hct hd]
noncomputable abbrev B4e:List (String×DataW Unit):=Rows.execCalledUptoRow.laid
theorem A8y {W : World} (h : laidMetH Tryz.prog B4e W) : ∃ a b, laidMet Tryz.prog [a, b, ("internal/strconv.uint64pow10", Lib.tabData .u64 Lib.pow10Tab)] W := ⟨_, _, h⟩
theorem B0r{W:World}(h:laidMetH Tryz.prog B4e W):A16 Tryz.prog W:=by
 obtain⟨a,b,h⟩:=A8y h;refine⟨fun t ht g hg=>?_,fun n hn g hg=>?_⟩
 ·skip;rw [show t = ("internal/strconv.uint64pow10", .u64, Lib.pow10Tab) by simpa [B4f] using ht];exact A6b (g:=0) (t:=350) (e:=330) (n:=20) (by kernel_rfl) (by kernel_rfl) Tryz.underlying350 Tryz.underlying330 (by kernel_rfl) (by kernel_rfl) h
 ·cases hn
def A8z:DataW Unit->Array Value
 | .agg l=>(l.map fun | .lit (.int k n)=>Value.int k n|_=>undef).toArray
 | _=>#[]
def A4M(vs:Array Value):Obj->Obj
 | .cells _ t frozen=>.cells vs t frozen
 | o=>o
noncomputable def A2T(os:Os):World :=
 { World.holding Tryz.prog os ⟨#[],#[],[]⟩ with heap:=(((World.holding Tryz.prog os ⟨#[],#[],[]⟩).heap.modify 0 (A4M (A8z Rows.laid_internal_strconv_uint64pow10))).modify 4 (A4M (A8z Rows.laid_math_bits_deBruijn32tab))).modify 5 (A4M (A8z Rows.laid_math_bits_deBruijn64tab)) }
theorem A6c{P:Program}{f:FuncId}{fn:Func}{s:ChangeSpec}{c:OpenClaim}
  (h0:(c.wf (OpenSpec.ofChange s)&&laidOutB P&&mapsRowed P&&fn.params.all (P.readableRec ·)&&namedTie P c.named s.vars&&(c.stops==[])&&(P.stops==[])&&(c.knobs==[])&&(P.stopKnobs==[]))=true)
  (h1:(c.inPlace==P.inPlace f)=true) (h2:(c.unfollowed==P.unfollowed f)=true) (h3:(c.recurses==P.recurses f)=true) (h4:(c.named==P.varsNamed f)=true)
  (h5:((c.maps==(fn.params.toList++s.plain.varTypes P).any (P.mapsRec ·))&&(c.ifaces==(fn.params.toList++s.plain.varTypes P).any (P.ifacesRec ·))&&(c.mapsOut==P.mapsAmong fn.resultTypes.toList) &&
   (c.loops==(fn.params.toList++s.plain.varTypes P).any (P.loopsFrom ·))&&(c.wideKeys==(fn.params.toList++s.plain.varTypes P++fn.resultTypes.toList).any (P.wideKeysFrom ·)) &&
   s.vars.all (P.varReadable ·)&&fn.resultTypes.all (fun t=>P.readableRec t&&decide (t<P.types.size))&&(c.ifacesOut==fn.resultTypes.toList.any (P.ifacesRec ·))&&(c.loopsOut==fn.resultTypes.toList.any (P.loopsFrom ·)))=true)
  (h6:(c.plainKeys==P.plainKeys)=true)
  (h7:(c.shortTexts.isNone&&P.stopsHeard&&P.mayEnter&&(c.lifted==P.liftsFinal)&&(P.make==some c.make)&&(c.kinds==(if c.domain.isEmpty then [] else fn.params.toList.map fun t=>match P.underlying t with|some (.int k)=>some k|_=>none))&&(c.pinned==c.pinnedBy) &&
   (c.veiled==(fn.params.toList++s.plain.varTypes P++fn.resultTypes.toList).any (P.veiledRec ·))&&c.veiledFits P fn.params.toList (fn.params.toList++s.plain.varTypes P++fn.resultTypes.toList))=true):joinedFacts P f fn s c=true:=by
 unfold joinedFacts;simp only[yh] at h0 h5 h7 ⊢;obtain⟨⟨⟨⟨⟨⟨⟨⟨a1,a2⟩,a3⟩,a4⟩,a5⟩,a6⟩,a7⟩,a8⟩,a9⟩:=h0;obtain⟨⟨⟨⟨⟨⟨⟨⟨b1,b2⟩,b3⟩,b4⟩,b5⟩,b6⟩,b7⟩,b8⟩,b9⟩:=h5;obtain⟨⟨⟨⟨⟨⟨⟨⟨d1,d2⟩,d3⟩,d4⟩,d5⟩,d6⟩,d7⟩,d8⟩,d9⟩:=h7;exact⟨⟨⟨⟨⟨⟨⟨⟨⟨⟨⟨⟨⟨⟨⟨⟨⟨⟨⟨⟨⟨⟨⟨⟨⟨⟨⟨⟨⟨⟨⟨a1,a2⟩,a3⟩,a4⟩,a5⟩,a6⟩,a7⟩,a8⟩,a9⟩,h1⟩,h2⟩,h3⟩,h4⟩,b1⟩,b2⟩,b3⟩,b4⟩,b5⟩,b6⟩,b7⟩,b8⟩,b9⟩,h6⟩,d1⟩,d2⟩,d3⟩,d4⟩,d5⟩,d6⟩,d7⟩,d8⟩,d9⟩
end Go.Proofs.YtphjabjjnncebaaGreatDoor
