/- Parts of the proof: an abstract machine for Go functions, and what functions of the program give back (Dk5, Dk6, Dk7, Dkp, Dk9, Dk12, CcS, Sc1, Dw1, Sc2, Sc3, Sc4, St1). No condition. -/
import Derived.Test.YtphjabjjnncebaaGreatDoorXH
import Derived.Test.YtphjabjjnncebaaGreatDoorXG
import Derived.Test.YtphjabjjnncebaaGreatDoorXE
import Derived.Test.YtphjabjjnncebaaGreatDoorXF
set_option maxRecDepth 100000
set_option linter.all false
set_option maxHeartbeats 1000000
namespace Go.Am
open Go Go.Proofs Go.RowKit Go.Proofs.Tryz
def F1(l:List (List UInt8)):List Bt:=l.flatMap λs=>(C4 s 0).bs
def C0m(s:List UInt8):(C4 s 0).bs.length<=s.length:=by
 have:=(A5S s).2.2;have:=(M9 s 0 o_).2.2.2.2.2.1;omega
def C42(l:List (List UInt8))(syn:Int)(id:Nat)(hl8:l.length<=8)(h4:∀s∈l,s.length<=400):A2 prog 155 [.agg [.sl (l.map AV.str),.int .i64 syn]] [] id (.sl ((F1 l).map v7)) []:=by
 refine w155.e.1 λE hP hR hl hid=>?_;simp[w155];refine B9 (X:=Nat×List Bt) (λx=>⟨[(3,true,.bsl E.n0 0 x.2.length),(10,true,.sl (l.map AV.str)),(11,true,.int .i64 l.length),(12,true,.int .i64 x.1)],[(E.n0,some ⟨x.2.map v7,.agg [.int .i64 0,.nils],false,false⟩)],1⟩)
  (λx=>x.1<=l.length/\x.2++F1 (l.drop x.1)=F1 l/\x.2.length<=400*x.1) (λx=>l.length - x.1) (0,[]) ?_ ⟨s_,rfl,s_⟩ ?_
 ·refine D9.trans (D9.voidSlot 3 (x:=.nils) (y:=.bsl (E.n0+7168) 0 0) s_ .nils (.agg [.int .i64 0,.nils])) ?_;exact yW [(E.n0,E.n0+7168)] trivial
 ·rintro⟨i,bs⟩ ⟨hi,hf,hbl⟩ p hp;simp only at hi hf hbl hp;refine A3 4000 ?_;simp;refine D0 (λh=>?_) (λh=>?_)
  ·have h:=zq h;obtain⟨x,hx,hd⟩:=A5 h;have hi1:IntKind.i64.wrap ((i:Int)+1)=((i+1:Nat):Int):=wrap64 o_;have hx4:=h4 x (zg hx);have hcb:=C0m x;simp[hx];refine⟨h,?_⟩;(refine yH rfl (B5N x _ hx4) ?_; simp);refine⟨⟨λa _=>⟨rfl,λy hy=>?_⟩,o_,o_⟩,hp _ (i+1,bs++(C4 x 0).bs) ⟨h,?_,m_⟩ (by simp only[]; omega) ?_⟩
   ·have hy:y∈(v7 a).cells:=hy;simp only[v7,AV.cells,zi,yp,or_false] at hy;rcases hy with rfl|rfl<;>rfl
   ·rw[←hf,hd]; simp[F1]
   ·refine yV [(E.n0,E.n0+15361)] s_ λhrn=>⟨?_,?_,?_,?_,?_⟩<;>(try simp[hi1]);exact B4 rfl (B3 (A5R _) (A5R _))
  ·have h:=zo h;simp;rw[zp o_] at hf;have hf:bs=F1 l:=(by simpa [F1] using hf);rw[←hf] at hR;have hrn:F7 []:=s_;rw[hR];refine J0 f_ (by simp<;>exact⟨rfl,rfl⟩) [] hrn ⟨?_,?_,?_,?_,?_,?_⟩<;>(try simp)
@[simp] theorem C80 (l:List (List UInt8)) (s:List UInt8):(A1h l s).length=l.length:=by simp[A1h]
@[simp] theorem C7Y (l:List (List UInt8)) (n:Nat):(A4b l n).length=l.length:=by simp[A4b]
@[simp] theorem C7Z (l:List (List UInt8)) (s:List UInt8) (f:List UInt8->AV):List.take l.length ((A1h l s).map f)=(A1h l s).map f:=zm s_
@[simp] theorem C6V (l:List (List UInt8)) (n:Nat) (f:List UInt8->AV):List.take l.length ((A4b l n).map f)=(A4b l n).map f:=zm s_
structure WhS where
 seg:List (List UInt8)
 syn:Nat
def whole(l:List (List UInt8)):WhS:=⟨A4b l (C4 (B7 l) 0).last,(C4 (B7 l) 0).last⟩
def A8Z(l:List (List UInt8))(syn:Int)(id:Nat)(hl8:l.length<=8)(h4:(B7 l).length<=400):A2 prog 50 [.agg [.sl (l.map AV.str),.int .i64 syn]] [] id (.agg [.sl ((whole l).seg.map AV.str),.int .i64 (whole l).syn]) []:=by
 have hown:=B5O l syn;have hend:=λk j id (h:k≠j)=>B6o k j l syn id hl8 h4 h;have htrim:=λk j id (h:k≠j)=>C3y k j l (C4 (B7 l) 0).last (C4 (B7 l) 0).last id hl8 (M9 (B7 l) 0 o_).2.1 h4 h;simp only[bxK,bxS] at hown hend htrim;refine w50.e.1 λE hP hR hl hid=>?_;simp[w50];(refine yH rfl (hown _ o_) ?_; simp);simp[yv];(refine yC rfl (hend (E.n0+3072) (E.n0+3073) _ s_) ?_; simp);(refine yC rfl (htrim (E.n0+3072) (E.n0+3073) _ s_) ?_; simp);have hrn:F7 []:=by simp
 rw[hR];refine J0 f_ (by simp<;>exact⟨rfl,rfl⟩) [] hrn ⟨?_,?_,?_,?_,?_,?_⟩<;>(try simp[whole])
def A1U{d:Dk}(h:F3 d≠2):d.seg.length<=8/\∀s∈d.seg,s.length<=400:=by
 unfold F3 at h;split at h
 ·exact (h rfl).elim
 ·rename_i h1;simp at h1;exact⟨h1.1,h1.2⟩
def B8T{l:List (List UInt8)}(h:l≠[]):B7 l∈l:=zg (s0 h)
def A3d{l:List (List UInt8)}(h:∀s∈l,s.length<=400):(B7 l).length<=400:=by
 by_cases hl:l=[]
 ·subst hl; simp[B7]
 ·exact h _ (B8T hl)
def C43(d:Dk)(id:Nat):A2 prog 89 [eDk d] [] id (.tup [.sl ((if F3 d=0 then F1 d.seg else []).map v7),eDk (if F3 d=0 then ⟨(whole d.seg).seg,(whole d.seg).syn⟩ else ⟨[],0⟩),.int .i64 (F3 d)]) []:=by
 have hck:=A6S d;simp only[eDk] at hck ⊢;refine w89.e.1 λE hP hR hl hid=>?_;simp[w89];(refine yH rfl (hck _) ?_; simp);refine D0 (λh=>?_) (λh=>?_)
 ·simp;have h':¬F3 d=0:=by simpa using h
  simp only[zf h'] at hR;refine yE hR [] s_ λhrn=>⟨?_,?_,?_,?_,?_,?_⟩<;>(try simp)
 ·simp;have h':F3 d=0:=by simpa using h
  simp only[zj h'] at hR;obtain⟨h8,h4⟩:=A1U (by rw[h']; decide);(refine yH rfl (C42 d.seg d.syn _ h8 h4) ?_; simp);(refine yH rfl (A8Z d.seg d.syn _ h8 (A3d h4)) ?_; simp);refine yE hR [] s_ λhrn=>⟨?_,?_,?_,?_,?_,?_⟩<;>(try simp[h'])
structure ApS where
 d:Dk
 e:Int
def H3(d:Dk)(b:Bt):ApS :=
 if F3 d≠0 then ⟨⟨[],0⟩,F3 d⟩
 else if I7 b≠0 then ⟨⟨[],0⟩,I7 b⟩
 else if (C4 (B7 d.seg) 0).last<(B7 d.seg).length then ⟨⟨[],0⟩,4⟩
 else if d.seg≠[]/\(B7 d.seg).length+(C2 b).length<=400 then ⟨⟨A1h d.seg (B7 d.seg++C2 b),d.syn⟩,0⟩
 else if d.seg.length=8 then ⟨⟨[],0⟩,2⟩
 else ⟨⟨d.seg++[C2 b],0⟩,0⟩
def B8U(d:Dk)(b:Bt)(id:Nat):A2 prog 87 [eDk d,v7 b] [] id (.tup [eDk (H3 d b).d,.int .i64 (H3 d b).e]) []:=by
 have hck:=A6S d;have hbk:=B0J b;have hby:=λid (h:I7 b=0)=>C0j b id (A13 h).2.2.2 (A13 h).2.2.1;have hown:=B5O d.seg d.syn;have htorn:=λk j id (h8:d.seg.length<=8) (h4:(B7 d.seg).length<=400) (h:k≠j)=>B6p k j d.seg d.syn id h8 h4 h;have hpa:=λk j id (h1) (h2) (h3) (h:k≠j)=>C3z k j d.seg d.syn (C2 b) id h1 h2 h3 h;have hpb:=λk j id (h1) (h2) (h3) (h4) (h:k≠j)=>C40 k j d.seg d.syn (C2 b) id h1 h2 h3 h4 h;have hpc:=λk j id (h1) (h2) (h3) (h4) (h:k≠j)=>C41 k j d.seg d.syn (C2 b) id h1 h2 h3 h4 h;simp only[eDk,v7,bxK,bxS] at *;refine w87.e.1 λE hP hR hl hid=>?_;simp[w87];(refine yH rfl (hck _) ?_; simp);refine D0 (λh=>?_) (λh=>?_)
 ·have h':F3 d=0:=by simpa using h
  obtain⟨h8,h4⟩:=A1U (by rw[h']; decide);have hl4:=A3d h4;simp;(refine yH rfl (hbk _) ?_; simp);refine D0 (λh1=>?_) (λh1=>?_)
  ·simp;have h1':I7 b≠0:=(v_ h1);have hv:H3 d b=⟨⟨[],0⟩,I7 b⟩:=(by unfold H3; rw[zf (t_ h'),zj h1']);rw[hv] at hR;refine yE hR [] s_ λhrn=>⟨?_,?_,?_,?_,?_,?_⟩<;>(try simp)
  ·simp;have h1':I7 b=0:=(v_ h1);have hbl:(C2 b).length<=400:=(by have:=A1o b h1'; simp[C2]; omega);(refine yC rfl (hown _ o_) ?_; simp[yv]);(refine yC rfl (htorn (E.n0+15360) (E.n0+15361) _ h8 hl4 s_) ?_; simp);refine D0 (λh2=>?_) (λh2=>?_)
   ·simp;have h2':=zq h2;have hv:H3 d b=⟨⟨[],0⟩,4⟩:=(by unfold H3; rw[zf (t_ h'),zf (t_ h1'),zj h2']);rw[hv] at hR;refine yE hR [] s_ λhrn=>⟨?_,?_,?_,?_,?_,?_⟩<;>(try simp)
   ·simp;have h2':=zo h2;(refine yH rfl (hby _ h1') ?_; simp);by_cases hp:d.seg≠[]/\(B7 d.seg).length+(C2 b).length<=400
    ·have hv:H3 d b=⟨⟨A1h d.seg (B7 d.seg++C2 b),d.syn⟩,0⟩:=(by unfold H3; rw[zf (t_ h'),zf (t_ h1'),zf h2',zj hp]);rw[hv] at hR;(refine yC rfl (hpa (E.n0+15360) (E.n0+15361) _ h8 hp.1 hp.2 s_) ?_; simp);have hrn:F7 []:=s_;rw[hR];refine J0 f_ (by simp<;>exact⟨rfl,rfl⟩) [] hrn ⟨?_,?_,?_,?_,?_,?_⟩<;>(try simp)
    ·by_cases h88:d.seg.length=8
     ·have hv:H3 d b=⟨⟨[],0⟩,2⟩:=(by unfold H3; rw[zf (t_ h'),zf (t_ h1'),zf h2',zf hp,zj h88]);rw[hv] at hR;have hne:d.seg≠[]:=(by intro h0; rw[h0] at h88; simp at h88);(refine yC rfl (hpb (E.n0+15360) (E.n0+15361) _ h88 (λh0=>hp ⟨hne,h0⟩) hl4 o_ s_) ?_; simp);refine yE hR [] s_ λhrn=>⟨?_,?_,?_,?_,?_,?_⟩<;>(try simp)
     ·have hv:H3 d b=⟨⟨d.seg++[C2 b],0⟩,0⟩:=(by unfold H3; rw[zf (t_ h'),zf (t_ h1'),zf h2',zf hp,zf h88]);rw[hv] at hR;have hor:d.seg=[]\/¬(B7 d.seg).length+(C2 b).length<=400:=by
       by_cases hne:d.seg=[]
       ·exact .inl hne
       ·exact .inr λh0=>hp ⟨hne,h0⟩
      (refine yC rfl (hpc (E.n0+15360) (E.n0+15361) _ o_ hor hl4 o_ s_) ?_; simp);have hrn:F7 []:=s_;rw[hR];refine J0 f_ (by simp<;>exact⟨rfl,rfl⟩) [] hrn ⟨?_,?_,?_,?_,?_,?_⟩<;>(try simp);exact⟨zm s_,by rw[zm s_]; exact A4 _ (B3 (A1I _) rfl)⟩
 ·have h':¬F3 d=0:=by simpa using h
  simp;refine A7 (v_ h') ?_;simp;have hv:H3 d b=⟨⟨[],0⟩,F3 d⟩:=by unfold H3; rw[zj h']
  rw[hv] at hR;refine yE hR [] s_ λhrn=>⟨?_,?_,?_,?_,?_,?_⟩<;>(try simp)
def A1q(d:Dk):ApS :=
 if F3 d≠0 then ⟨⟨[],0⟩,F3 d⟩
 else if (C4 (B7 d.seg) 0).last<(B7 d.seg).length then ⟨⟨[],0⟩,4⟩
 else ⟨⟨d.seg,(B7 d.seg).length⟩,0⟩
def C44(d:Dk)(id:Nat):A2 prog 90 [eDk d] [] id (.tup [eDk (A1q d).d,.int .i64 (A1q d).e]) []:=by
 have hck:=A6S d;have hown:=B5O d.seg d.syn;have htorn:=λk j id (h8:d.seg.length<=8) (h4:(B7 d.seg).length<=400) (h:k≠j)=>B6p k j d.seg d.syn id h8 h4 h;have hla:=C3w d.seg d.syn;simp only[eDk,bxK,bxS] at *;refine w90.e.1 λE hP hR hl hid=>?_;simp[w90];(refine yH rfl (hck _) ?_; simp);refine D0 (λh=>?_) (λh=>?_)
 ·have h':¬F3 d=0:=by simpa using h
  simp;have hv:A1q d=⟨⟨[],0⟩,F3 d⟩:=by unfold A1q; rw[zj h']
  rw[hv] at hR;refine yE hR [] s_ λhrn=>⟨?_,?_,?_,?_,?_,?_⟩<;>(try simp)
 ·have h':F3 d=0:=by simpa using h
  obtain⟨h8,h4⟩:=A1U (by rw[h']; decide);have hl4:=A3d h4;simp;(refine yC rfl (hown _ o_) ?_; simp[yv]);(refine yC rfl (htorn (E.n0+9216) (E.n0+9217) _ h8 hl4 s_) ?_; simp);refine D0 (λh2=>?_) (λh2=>?_)
  ·simp;have h2':=zq h2;have hv:A1q d=⟨⟨[],0⟩,4⟩:=(by unfold A1q; rw[zf (t_ h'),zj h2']);rw[hv] at hR;refine yE hR [] s_ λhrn=>⟨?_,?_,?_,?_,?_,?_⟩<;>(try simp)
  ·simp;have h2':=zo h2;have hv:A1q d=⟨⟨d.seg,(B7 d.seg).length⟩,0⟩:=(by unfold A1q; rw[zf (t_ h'),zf h2']);rw[hv] at hR;(refine yC rfl (hla _ o_) ?_; simp);have hrn:F7 []:=s_;rw[hR];refine J0 f_ (by simp<;>exact⟨rfl,rfl⟩) [] hrn ⟨?_,?_,?_,?_,?_,?_⟩<;>(try simp)
def B5P(s:List UInt8)(r:List (List UInt8)):B7 (s::r)=if r=[] then s else B7 r:=by
 cases r with
 | nil=>rfl
 | cons a r=>simp[B7,List.getLast?_cons_cons]
def A8a:∀(l:List (List UInt8)) (e0:List Nat),(Z7 l e0).e=0->(∀s∈l,(C4 s 0).e=5)/\(Z7 l e0).ends=(if l=[] then e0 else (C4 (B7 l) 0).ends)/\(∀(i:Nat) s,i+1<l.length->l[i]?=some s->(C4 s 0).last=s.length)
 | [],e0,_=>⟨s_,rfl,s_⟩
 | s::r,e0,h=>by
  simp only[Z7] at h ⊢;split at h
  ·exact ((M9 s 0 o_).2.2.2.2.1 h).elim
  ·rename_i h1;rw[zf h1];split at h
   ·simp at h
   ·rename_i h2;rw[zf h2];obtain⟨i1,i2,i3⟩:=A8a r _ h;have h5:(C4 s 0).e=5:=zk h1;refine⟨λx hx=>?_,?_,λi x hi hx=>?_⟩
    ·rcases zi.1 hx with rfl|hx
     ·exact h5
     ·exact i1 x hx
    ·rw[i2,B5P];simp only[reduceCtorEq,if_false];split<;>rfl
    ·cases i with
     | zero =>
      simp at hx;subst hx;have hr:r≠[]:=(by intro h0; subst h0; simp at hi);have:=(M9 s 0 o_).2.1;have:¬(C4 s 0).last<s.length:=λh0=>h2 ⟨hr,h0⟩;omega
     | succ i=>exact i3 i x (v_ hi) (v_ hx)
def A7n:C4 [] 0=⟨[],[0],0,5⟩:=by
 rw[P8 d_];have:(A9 (List.drop 0 [])).e=5:=by decide
 rw[this]
def B0O(l:List (List UInt8))(h:(Z7 l [0]).e=0):(Z7 l [0]).ends=(C4 (B7 l) 0).ends:=by
 rw[(A8a l [0] h).2.1];split
 ·rename_i h0; subst h0;rw[show B7 []=[] from rfl,A7n]
 ·rfl
def A5T{d:Dk}(h:F3 d=0):(Z7 d.seg [0]).e=0/\0<=d.syn/\d.syn<=(B7 d.seg).length/\d.syn.toNat∈(C4 (B7 d.seg) 0).ends:=by
 unfold F3 at h;split at h
 ·simp at h
 ·split at h
  ·rename_i h1; exact (h1 h).elim
  ·rename_i h1;have h1:(Z7 d.seg [0]).e=0:=zk h1;split at h
   ·rename_i h2;rw[B0O _ h1] at h2;simp only[vo,beq_iff_eq] at h2;obtain⟨x,hx,hs⟩:=h2;have hf:=M9 (B7 d.seg) 0 o_;have:=hf.2.2.2.1 x hx;refine⟨h1,o_,o_,?_⟩;rw[hs,wh]; exact hx
   ·simp at h
def A3e(a b:Dk):Bool:=a.syn==b.syn&&A0Y (λx y=>x==y) a.seg b.seg
def B5Q(a b:Dk):A3e a b=true↔a=b:=by
 obtain⟨l,n⟩:=a;obtain⟨l',n'⟩:=b;simp[A3e,A6P (f:=λ(x y:List UInt8)=>x==y) s_,and_comm]
def B3c(a b:Dk)(id:Nat)(hl:a.seg.length<9223372036854775807):A2 prog 34 [eDk a,eDk b] [] id (.bool (A3e a b)) []:=by
 simp only[eDk];refine w34.e.1 λE hP hR hl hid=>?_;simp[w34];refine D0 (λh=>?_) (λh=>?_)
 ·simp;have hv:A3e a b=false:=by
   unfold A3e;by_cases h1:a.syn=b.syn
   ·have h2:a.seg.length≠b.seg.length:=(by simp[h1] at h; omega);rw[A8W h2]; simp
   ·simp[h1]
  rw[hv] at hR;exact yP hR
 ·simp;have h1:a.syn=b.syn:=by simp at h; exact h.1
  have h2:a.seg.length=b.seg.length:=by simp[h1] at h; omega
  have hv:A3e a b=A0Y (λx y=>x==y) a.seg b.seg:=by simp[A3e,h1]
  rw[hv] at hR;refine B9 (X:=Nat) (λi=>⟨[(2,true,.ptr E.n0 0 0),(3,true,.ptr (E.n0+1) 0 0),(5,true,.int .i64 i)],[(E.n0,some ⟨[.agg [.sl (a.seg.map AV.str),.int .i64 a.syn]],.agg [.nils,.int .i64 0],false,false⟩),(E.n0+1,some ⟨[.agg [.sl (b.seg.map AV.str),.int .i64 b.syn]],.agg [.nils,.int .i64 0],false,false⟩)],2⟩)
   (λi=>i<=a.seg.length/\A0Y (λx y=>x==y) (a.seg.drop i) (b.seg.drop i)=A0Y (λx y=>x==y) a.seg b.seg) (λi=>a.seg.length - i) 0 ?_ ⟨o_,rfl⟩ ?_
  ·exact yW [(E.n0,E.n0),(E.n0+1,E.n0+1024)] trivial
  ·rintro i ⟨hi,hf⟩ p hp;refine A3 4000 ?_;simp;refine D0 (λh=>?_) (λh=>?_)
   ·have h:=zq h;obtain⟨x,hx,hd⟩:=A5 h;obtain⟨y,hy,hd'⟩:=A5 (l:=b.seg) (i:=i) o_;rw[hd,hd'] at hf;simp only[A0Y] at hf;have hi1:IntKind.i64.wrap ((i:Int)+1)=((i+1:Nat):Int):=wrap64 o_;simp[hx,hy];(repeat (refine And.intro (by first|assumption|omega|(simp; omega)|(simp_all; done)) ?_));refine D0 (λh3=>?_) (λh3=>?_)
    ·simp;have h3':(x==y)=false:=(v_ h3);rw[h3',tc] at hf;exact yP hR (h1:=by simp; exact hf.symm)
    ·simp;have h3':(x==y)=true:=(v_ h3);rw[h3',ue] at hf;refine hp _ (i+1) ⟨h,hf⟩ o_ ?_;refine yV [(E.n0,E.n0),(E.n0+1,E.n0+1)] s_ λhrn=>⟨?_,?_,?_,?_,?_⟩<;>(try simp[hi1])
   ·have h:=zo h;simp;rw[zp o_,zp o_] at hf;exact yP hR (h1:=by simp; exact hf.symm)
def B3d(s:List UInt8):List UInt8:=s.take (C4 s 0).last
end Go.Am
namespace Go.Am
open Go Go.RowKit Go.Proofs.Tryz
def A6T{l:List (List UInt8)}(h:l≠[]):l=l.dropLast++[B7 l]:=by
 have h1:=List.dropLast_concat_getLast h;have h2:B7 l=l.getLast h:=by unfold B7; rw[List.getLast?_eq_some_getLast h]; rfl
 rw[h2,h1]
def B1d{l:List (List UInt8)}(h:l≠[])(s:List UInt8):A1h l s=l.dropLast++[s]:=by
 have hp:=xi.2 h;unfold A1h;conv=>lhs; arg 1; rw[A6T h]
 rw[List.set_append];simp
def B8V(l:List (List UInt8)):A1h l (B7 l)=l:=by
 by_cases h:l=[]
 ·subst h; rfl
 ·rw[B1d h,←A6T h]
def A8b{l:List (List UInt8)}(h:l≠[])(s:List UInt8):B7 (A1h l s)=s:=by
 rw[B1d h]; simp[B7]
def A8c(l:List (List UInt8))(s:List UInt8):B7 (l++[s])=s:=by simp[B7]
/-! ### The examples of diskBegun -/
def C45(b:Bt)(h:I7 b=0):C4 (C2 b) 0=⟨[b],[0,(C2 b).length],(C2 b).length,5⟩:=by
 have hd:=A4I b h [];rw[xr] at hd;have h0:(A9 ((C2 b).drop 0)).e=0:=by rw[wo,hd]
 rw[Z3 h0,wo,hd];simp only[wh,yy];have h5:(A9 ((C2 b).drop (C2 b).length)).e=5:=by rw[List.drop_length]; decide
 rw[P8 (by rw[h5]; decide),h5]
end Go.Am
namespace Go.Am
open Go Go.Proofs Go.RowKit Go.Proofs.Tryz
/-! ### The plain law: what is open,what is behind,a crash -/
def C0n(s:List UInt8):C4 (B3d s) 0=⟨(C4 s 0).bs,(C4 s 0).ends,(C4 s 0).last,(C4 (B3d s) 0).e⟩/\(C4 (B3d s) 0).e=5:=by
 have hl:=(M9 s 0 o_).2.1;have key:=A2u (s:=s) (p:=λa=>a<=s.length->∀k,(C4 s a).last=k->C4 (s.take k) a=⟨(C4 s a).bs,(C4 s a).ends,(C4 s a).last,(C4 (s.take k) a).e⟩/\(C4 (s.take k) a).e=5) (λa hd ha k hk=>?_) (λa hd hle ih ha k hk=>?_) (s.length+1) 0 o_ o_ _ rfl
 ·exact key
 ·rw[P8 hd] at hk ⊢;simp only at hk ⊢;subst hk;have h5:(A9 ((s.take a).drop a)).e=5:=by
   rw[qb m_]; decide
  rw[P8 (by rw[h5]; decide)];exact⟨rfl,h5⟩
 ·rw[Z3 hd] at hk ⊢;simp only at hk ⊢;have hadv:=Y1 hd;have hge:=(M9 s (a+(A9 (s.drop a)).n.toNat) hle).1;have hle2:=(M9 s (a+(A9 (s.drop a)).n.toNat) hle).2.1;have e:A9 ((s.take k).drop a)=A9 (s.drop a):=by
   rw[uz]; exact A7C hd o_
  have hd':(A9 ((s.take k).drop a)).e=0:=by rw[e]; exact hd
  obtain⟨i1,i2⟩:=ih hle k hk;rw[Z3 hd',e];simp only;rw[i1];exact⟨by simp only[i2],i2⟩
def C46(s:List UInt8)(b:Bt)(hb:I7 b=0)(h:(C4 s 0).last=s.length):(C4 (s++C2 b) 0).bs=(C4 s 0).bs++[b]/\(C4 (s++C2 b) 0).last=(s++C2 b).length/\(C4 (s++C2 b) 0).e=5:=by
 have hdl:∀a,a<=s.length->(s++C2 b).drop a=s.drop a++C2 b:=λa ha=>by rw[List.drop_append_of_le_length ha]
 have key:=A2u (s:=s) (p:=λa=>a<=s.length->(C4 s a).last=s.length->(C4 (s++C2 b) a).bs=(C4 s a).bs++[b]/\(C4 (s++C2 b) a).last=(s++C2 b).length/\(C4 (s++C2 b) a).e=5) (λa hd ha hk=>?_) (λa hd hle ih ha hk=>?_) (s.length+1) 0 o_ o_ h
 ·exact key
 ·rw[P8 hd] at hk ⊢;simp only at hk ⊢;subst hk;have hdd:(s++C2 b).drop s.length=C2 b:=by rw[rf]
  have hdc:=A4I b hb [];rw[xr] at hdc;have h0:(A9 ((s++C2 b).drop s.length)).e=0:=by rw[hdd,hdc]
  rw[Z3 h0,hdd,hdc];simp only[wh];have h5:(A9 ((s++C2 b).drop (s.length+(C2 b).length))).e=5:=by
   rw[qb s_]; decide
  rw[P8 (by rw[h5]; decide)];simp only[zu];exact⟨rfl,trivial,h5⟩
 ·rw[Z3 hd] at hk ⊢;simp only at hk ⊢;have e:A9 ((s++C2 b).drop a)=A9 (s.drop a):=by rw[hdl a ha]; exact A3c hd _
  have h0:(A9 ((s++C2 b).drop a)).e=0:=by rw[e]; exact hd
  rw[Z3 h0,e];simp only;obtain⟨i1,i2,i3⟩:=ih hle hk;rw[i1,i2,i3];exact⟨rfl,rfl,rfl⟩
def B0P{l:List (List UInt8)}(h:l=[]):whole l=⟨[],0⟩:=by
 subst h;unfold whole;simp only[show B7 []=[] from rfl,A7n];rfl
def B5R{l:List (List UInt8)}(h:l≠[]):B7 (whole l).seg=B3d (B7 l):=A8b h _
def B3e:∀(l:List (List UInt8)) (e0:List Nat),(∀s∈l,(C4 s 0).e=5)->(∀(i:Nat) s,i+1<l.length->l[i]?=some s->(C4 s 0).last=s.length)->(Z7 l e0).e=0
 | [],e0,_,_=>rfl
 | s::r,e0,h1,h2=>by
  simp only[Z7];rw[zf (by rw[h1 s s_]; simp),zf]
  ·exact B3e r _ (λx hx=>h1 x (t_ hx)) λi x hi hx=>h2 (i+1) x (v_ hi) (v_ hx)
  ·rintro⟨hr,hlt⟩;have:=h2 0 s (by have:=xi.2 hr; simp; omega) rfl;omega
def C0o{d:Dk}(h8:d.seg.length<=8)(h4:∀s∈d.seg,s.length<=400)(h1:∀s∈d.seg,(C4 s 0).e=5)(h2:∀(i:Nat) s,i+1<d.seg.length->d.seg[i]?=some s->(C4 s 0).last=s.length)(n:Nat)(hn:d.syn=n)(h3:n∈(C4 (B7 d.seg) 0).ends):F3 d=0:=by
 have h0:=B3e d.seg [0] h1 h2;unfold F3;rw[zf,zf (by rw[h0]; simp),zj]
 ·rw[B0O _ h0,vo];exact⟨n,h3,t_ hn⟩
 ·rintro (h|h)
  ·omega
  ·rw[vo] at h;obtain⟨s,hs,h⟩:=h;have:=h4 s hs;simp at h;omega
def B3f(s:List UInt8):(C4 s 0).last∈(C4 s 0).ends:=by
 have:=(A5S s).1;exact zg this
structure A2v(l:List (List UInt8)):Prop where
 h8:l.length<=8
 h4:∀s∈l,s.length<=400
 h5:∀s∈l,(C4 s 0).e=5
 hf:∀(i:Nat) s,i+1<l.length->l[i]?=some s->(C4 s 0).last=s.length
def B1e{d:Dk}(h:F3 d=0):A2v d.seg:=by
 obtain⟨h8,h4⟩:=A1U (by rw[h]; decide);obtain⟨g1,g2,g3⟩:=A8a _ _ (A5T h).1;exact⟨h8,h4,g1,g3⟩
def A2v.check{l:List (List UInt8)}(g:A2v l)(n:Nat)(h:n∈(C4 (B7 l) 0).ends):F3 ⟨l,n⟩=0:=C0o g.h8 g.h4 g.h5 g.hf n rfl h
def A8d{l:List (List UInt8)}{s:List UInt8}{i:Nat}{x:List UInt8}(h:(A1h l s)[i]?=some x):(i+1<l.length/\l[i]?=some x)\/(i+1=l.length/\x=s):=by
 unfold A1h at h;rw[uq] at h;split at h
 ·rename_i e;split at h
  ·injection h with h; exact .inr ⟨o_,h.symm⟩
  ·cases h
 ·have hi:=(ze.1 h).1;exact .inl ⟨o_,h⟩
def A2v.set{l:List (List UInt8)}(g:A2v l){s:List UInt8}(h1:s.length<=400)(h2:(C4 s 0).e=5):A2v (A1h l s):=by
 refine⟨v_ g.h8,λx hx=>?_,λx hx=>?_,λi x hi hx=>?_⟩
 ·obtain⟨i,hi⟩:=uw hx;rcases A8d hi with⟨_,h⟩|⟨_,rfl⟩
  ·exact g.h4 x (zg h)
  ·exact h1
 ·obtain⟨i,hi⟩:=uw hx;rcases A8d hi with⟨_,h⟩|⟨_,rfl⟩
  ·exact g.h5 x (zg h)
  ·exact h2
 ·simp at hi;rcases A8d hx with⟨_,h⟩|⟨h,_⟩
  ·exact g.hf i x hi h
  ·omega
def A2v.snoc{l:List (List UInt8)}(g:A2v l){s:List UInt8}(h8:l.length<8)(h1:s.length<=400)(h2:(C4 s 0).e=5)(h3:l≠[]->(C4 (B7 l) 0).last=(B7 l).length):A2v (l++[s]):=by
 refine⟨m_,λx hx=>?_,λx hx=>?_,λi x hi hx=>?_⟩
 ·rcases zr.1 hx with hx|hx
  ·exact g.h4 x hx
  ·simp at hx; subst hx; exact h1
 ·rcases zr.1 hx with hx|hx
  ·exact g.h5 x hx
  ·simp at hx; subst hx; exact h2
 ·simp at hi;rw[yh o_] at hx;by_cases hl:i+1<l.length
  ·exact g.hf i x hl hx
  ·have hne:l≠[]:=(by intro h0; subst h0; simp at hi);have:=s0 hne;rw[show l.length - 1=i by omega,hx] at this;injection this with this
   subst this;exact h3 hne
def A2v.last4{l:List (List UInt8)}(g:A2v l):(B7 l).length<=400:=A3d g.h4
def B3g{l:List (List UInt8)}(h:l≠[])(s:List UInt8):F1 (A1h l s)=F1 l.dropLast++(C4 s 0).bs:=by
 rw[B1d h]; simp[F1]
def B0Q{l:List (List UInt8)}(h:l≠[]):F1 l=F1 l.dropLast++(C4 (B7 l) 0).bs:=by
 conv=>lhs; rw[A6T h]
 simp[F1]
def A8e{l:List (List UInt8)}(g:A2v l):A2v (whole l).seg/\F3 ⟨(whole l).seg,(whole l).syn⟩=0/\F1 (whole l).seg=F1 l/\whole (whole l).seg=whole l/\(C4 (B7 (whole l).seg) 0).last=(B7 (whole l).seg).length/\(whole l).syn=(B7 (whole l).seg).length:=by
 by_cases h:l=[]
 ·rw[B0P h];subst h;have hg:A2v []:=⟨s_,s_,s_,s_⟩;refine⟨hg,hg.check 0 (by rw[show B7 []=[] from rfl,A7n]; simp),rfl,B0P rfl,?_,rfl⟩;rw[show B7 []=[] from rfl,A7n]; rfl
 ·have hl:=B5R h;have h4:=g.last4;have hll:=(M9 (B7 l) 0 o_).2.1;obtain⟨c1,c2⟩:=C0n (B7 l);have hlen:(B3d (B7 l)).length=(C4 (B7 l) 0).last:=by simp[B3d]; omega
  have g':A2v (whole l).seg:=g.set (by rw[←B3d] at *; omega) c2;have hlast:(C4 (B7 (whole l).seg) 0).last=(B7 (whole l).seg).length:=by rw[hl,c1,hlen]
  have hsyn:(whole l).syn=(B7 (whole l).seg).length:=by rw[hl,hlen]; rfl
  refine⟨g',g'.check _ ?_,?_,?_,hlast,hsyn⟩
  ·rw[hsyn,←hlast]; exact B3f _
  ·show F1 (A1h l _)=_;rw[B3g h,B0Q h];show _++(C4 (B3d (B7 l)) 0).bs=_;rw[c1]
  ·show (⟨A4b (whole l).seg _,_⟩:WhS)=_;rw[hlast];unfold A4b;rw[uh,B8V,←hsyn]
structure Fd where
 name:List UInt8
 kind:Int
 of:List UInt8
structure Ty where
 name:List UInt8
 fields:List Fd
def U8(f:Fd):AV:=.agg [.str f.name,.int .i64 f.kind,.str f.of]
def I9(t:Ty):AV:=.agg [.str t.name,.sl (t.fields.map U8)]
theorem B3h(f:Fd):(U8 f).pureB=true:=rfl
@[simp] theorem B3i (l:List Fd):F8 (l.map U8)=true:=E9 B3h l
@[simp] theorem C7a (S:Nat->Prop) (l:List Fd):F4 S (l.map U8):=A4 _ (B3i l)
@[simp] theorem C95 (R:Rn) (S:Nat->Prop) (l:List Fd):N8 R S (l.map U8) (l.map U8):=B4 rfl (B3i l)
def C0p(t:Ty):(I9 t).pureB=true:=by simp[I9]
@[simp] theorem B3j (l:List Ty):F8 (l.map I9)=true:=E9 C0p l
@[simp] theorem C7b (S:Nat->Prop) (l:List Ty):F4 S (l.map I9):=A4 _ (B3j l)
def E0{α:Type}(p:α->Bool):List α->Nat->Int
 | [],_=>-1
 | x::l,i=>if p x then (i:Int) else E0 p l (i+1)
def V4{α:Type}(p:α->Bool):∀(l:List α) (i:Nat),decide (0<=E0 p l i)=l.any p
 | [],i=>by simp[E0]
 | x::l,i=>by
  simp only[E0,sr];by_cases hx:p x=true
  ·simp[hx]
  ·simp[hx,V4 p l (i+1)]
def B3k(f:Fd)(j:Nat)(name:List UInt8)(id:Nat):A2 prog 274 [U8 f,.ptr j 0 0] [(j,⟨[.str name],.str name,false,false⟩)] id (.bool (f.name==name)) []:=by
 unfold U8;refine w274.e.1 λE hP hR hl hid=>?_;simp[w274];have hj:=hl (j,_) (za ..);simp only at hj;have j1:=lf hj;simp[j1];refine yE hR [] s_ λhrn=>⟨?_,?_,?_,?_,?_,?_⟩<;>(try simp[j1])
def C0q(t:Ty)(j:Nat)(name:List UInt8)(id:Nat):A2 prog 134 [I9 t,.ptr j 0 0] [(j,⟨[.str name],.str name,false,false⟩)] id (.bool (t.name==name)) []:=by
 unfold I9;refine w134.e.1 λE hP hR hl hid=>?_;simp[w134];have hj:=hl (j,_) (za ..);simp only at hj;have j1:=lf hj;simp[j1];refine yE hR [] s_ λhrn=>⟨?_,?_,?_,?_,?_,?_⟩<;>(try simp[j1])
def B5S(l:List Fd)(j:Nat)(name:List UInt8)(id:Nat)(hl8:l.length<9223372036854775807):A2 prog 273 [.sl (l.map U8),.fn 274 [.ptr j 0 0]] [(j,⟨[.str name],.str name,false,false⟩)] id (.int .i64 (E0 (λx=>x.name==name) l 0)) []:=by
 refine w273.e.1 λE hP hR hl hid=>?_;simp[w273];have hj:=hl (j,_) (za ..);simp only at hj;have j1:=lf hj;refine B9 (X:=Nat) (λi=>⟨[(0,true,.sl (l.map U8)),(1,true,.fn 274 [.ptr j 0 0]),(7,true,.int .i64 l.length),(8,true,.int .i64 i)],[(j,some (⟨[.str name],.str name,false,false⟩))],0⟩) (λi=>i<=l.length/\E0 (λx=>x.name==name) (l.drop i) i=E0 (λx=>x.name==name) l 0) (λi=>l.length - i) 0 ?_ ⟨o_,rfl⟩ ?_
 ·refine yV [] s_ λhrn=>⟨?_,?_,?_,?_,?_⟩<;>(try simp[j1])
 ·rintro i ⟨hi,hf⟩ p hp;refine A3 4000 ?_;simp;refine D0 (λh=>?_) (λh=>?_)
  ·have h:=zq h;obtain⟨x,hx,hd⟩:=A5 h;have hcl:=B3k x j name;simp only[U8] at hcl;rw[hd] at hf;simp only[E0] at hf;have hi1:IntKind.i64.wrap ((i:Int)+1)=((i+1:Nat):Int):=wrap64 o_;simp[hx,U8];refine⟨h,?_⟩;refine E8 hP rfl rfl (hcl _) s_ f_ ?_;refine A3 4000 ?_;simp;refine D0 (λh1=>?_) (λh1=>?_)
   ·simp;rw[zj h1] at hf;rw[←hf] at hR;refine yE hR [] s_ λhrn=>⟨?_,?_,?_,?_,?_,?_⟩<;>(try simp[j1])
   ·simp;rw[zf (v_ h1)] at hf;refine hp _ (i+1) ⟨h,hf⟩ o_ ?_;refine yV [] s_ λhrn=>⟨?_,?_,?_,?_,?_⟩<;>(try simp[hi1,j1])
  ·have h:=zo h;simp;rw[zp o_] at hf;rw[←hf] at hR;refine yE hR [] s_ λhrn=>⟨?_,?_,?_,?_,?_,?_⟩<;>(try simp[j1,E0])
def B5T(l:List Ty)(j:Nat)(name:List UInt8)(id:Nat)(hl8:l.length<9223372036854775807):A2 prog 133 [.sl (l.map I9),.fn 134 [.ptr j 0 0]] [(j,⟨[.str name],.str name,false,false⟩)] id (.int .i64 (E0 (λx=>x.name==name) l 0)) []:=by
 refine w133.e.1 λE hP hR hl hid=>?_;simp[w133];have hj:=hl (j,_) (za ..);simp only at hj;have j1:=lf hj;refine B9 (X:=Nat) (λi=>⟨[(0,true,.sl (l.map I9)),(1,true,.fn 134 [.ptr j 0 0]),(7,true,.int .i64 l.length),(8,true,.int .i64 i)],[(j,some (⟨[.str name],.str name,false,false⟩))],0⟩) (λi=>i<=l.length/\E0 (λx=>x.name==name) (l.drop i) i=E0 (λx=>x.name==name) l 0) (λi=>l.length - i) 0 ?_ ⟨o_,rfl⟩ ?_
 ·refine yV [] s_ λhrn=>⟨?_,?_,?_,?_,?_⟩<;>(try simp[j1])
 ·rintro i ⟨hi,hf⟩ p hp;refine A3 4000 ?_;simp;refine D0 (λh=>?_) (λh=>?_)
  ·have h:=zq h;obtain⟨x,hx,hd⟩:=A5 h;have hcl:=C0q x j name;simp only[I9] at hcl;rw[hd] at hf;simp only[E0] at hf;have hi1:IntKind.i64.wrap ((i:Int)+1)=((i+1:Nat):Int):=wrap64 o_;simp[hx,I9];refine⟨h,?_⟩;refine E8 hP rfl rfl (hcl _) s_ f_ ?_;refine A3 4000 ?_;simp;refine D0 (λh1=>?_) (λh1=>?_)
   ·simp;rw[zj h1] at hf;rw[←hf] at hR;refine yE hR [] s_ λhrn=>⟨?_,?_,?_,?_,?_,?_⟩<;>(try simp[j1])
   ·simp;rw[zf (v_ h1)] at hf;refine hp _ (i+1) ⟨h,hf⟩ o_ ?_;refine yV [] s_ λhrn=>⟨?_,?_,?_,?_,?_⟩<;>(try simp[hi1,j1])
  ·have h:=zo h;simp;rw[zp o_] at hf;rw[←hf] at hR;refine yE hR [] s_ λhrn=>⟨?_,?_,?_,?_,?_,?_⟩<;>(try simp[j1,E0])
def A1V(l:List Fd)(n name:List UInt8)(id:Nat)(hl8:l.length<9223372036854775807):A2 prog 229 [.agg [.str n,.sl (l.map U8)],.str name] [] id (.int .i64 (E0 (λx=>x.name==name) l 0)) []:=by
 refine w229.e.1 λE hP hR hl hid=>?_;simp[w229];(refine yH rfl (B5S l (E.n0+1024) name _ hl8) ?_; simp);exact yP hR
def o8(l:List Ty)(name:List UInt8)(id:Nat)(hl8:l.length<9223372036854775807):A2 prog 72 [.sl (l.map I9),.str name] [] id (.int .i64 (E0 (λx=>x.name==name) l 0)) []:=by
 refine w72.e.1 λE hP hR hl hid=>?_;simp[w72];(refine yH rfl (B5T l E.n0 name _ hl8) ?_; simp);exact yP hR
def C0r(x b:Bt)(j:Nat)(id:Nat):A2 prog 104 [v7 x,.ptr j 0 0] [(j,⟨[v7 b],.agg [.int .i64 0,.nils],false,false⟩)] id (.bool (x.number==b.number)) []:=by
 unfold v7;refine w104.e.1 λE hP hR hl hid=>?_;simp[w104];have hj:=hl (j,_) (za ..);simp only at hj;have j1:=lf hj;simp[j1];refine yE hR [] s_ λhrn=>⟨?_,?_,?_,?_,?_,?_⟩<;>(try simp[j1])
def C47(x:Bt)(n:Int)(j:Nat)(id:Nat):A2 prog 49 [v7 x,.ptr j 0 0] [(j,⟨[.int .i64 n],.int .i64 n,false,false⟩)] id (.bool (x.number==n)) []:=by
 unfold v7;refine w49.e.1 λE hP hR hl hid=>?_;simp[w49];have hj:=hl (j,_) (za ..);simp only at hj;have j1:=lf hj;simp[j1];refine yE hR [] s_ λhrn=>⟨?_,?_,?_,?_,?_,?_⟩<;>(try simp[j1])
def B5U(g j:Nat)(c d:AV)(n:Int)(hc:c.pureB=true)(hg:∀(x:Bt) id,A2 prog g [v7 x,.ptr j 0 0] [(j,⟨[c],d,false,false⟩)] id (.bool (x.number==n)) [])(l:List Bt)(id:Nat)(hl8:l.length<=1000000):A2 prog 106 [.sl (l.map v7),.fn g [.ptr j 0 0]] [(j,⟨[c],d,false,false⟩)] id (.int .i64 (E0 (λx=>x.number==n) l 0)) []:=by
 refine w106.e.1 λE hP hR hl hid=>?_;simp[w106];have hj:=hl (j,_) (za ..);simp only at hj;have j1:=lf hj;refine B9 (X:=Nat) (λi=>⟨[(0,true,.sl (l.map v7)),(1,true,.fn g [.ptr j 0 0]),(7,true,.int .i64 l.length),(8,true,.int .i64 i)],[(j,some ⟨[c],d,false,false⟩)],0⟩) (λi=>i<=l.length/\E0 (λx=>x.number==n) (l.drop i) i=E0 (λx=>x.number==n) l 0) (λi=>l.length - i) 0 ?_ ⟨o_,rfl⟩ ?_
 ·refine yV [] s_ λhrn=>⟨?_,?_,?_,?_,?_⟩<;>(try simp[j1]);all_goals exact K0 rfl hc
 ·rintro i ⟨hi,hf⟩ p hp;refine A3 4000 ?_;simp;refine D0 (λh=>?_) (λh=>?_)
  ·have h:=zq h;obtain⟨x,hx,hd⟩:=A5 h;have hcl:=λid=>hg x id;simp only[v7] at hcl;rw[hd] at hf;simp only[E0] at hf;have hi1:IntKind.i64.wrap ((i:Int)+1)=((i+1:Nat):Int):=wrap64 o_;simp[hx,v7];refine⟨h,?_⟩;refine E8 hP rfl rfl (hcl _) s_ f_ ?_;refine A3 4000 ?_;simp;refine D0 (λh1=>?_) (λh1=>?_)
   ·simp;rw[zj h1] at hf;rw[←hf] at hR;refine yE hR [] s_ λhrn=>⟨?_,?_,?_,?_,?_,?_⟩<;>(try simp[j1]);all_goals exact K0 rfl hc
   ·simp;rw[zf (v_ h1)] at hf;refine hp _ (i+1) ⟨h,hf⟩ o_ ?_;refine yV [] s_ λhrn=>⟨?_,?_,?_,?_,?_⟩<;>(try simp[hi1,j1]);all_goals exact K0 rfl hc
  ·have h:=zo h;simp;rw[zp o_] at hf;rw[←hf] at hR;refine yE hR [] s_ λhrn=>⟨?_,?_,?_,?_,?_,?_⟩<;>(try simp[j1,E0]);all_goals exact K0 rfl hc
def B0R(g j:Nat)(c d:AV)(n:Int)(hc:c.pureB=true)(hg:∀(x:Bt) id,A2 prog g [v7 x,.ptr j 0 0] [(j,⟨[c],d,false,false⟩)] id (.bool (x.number==n)) [])(l:List Bt)(id:Nat)(hl8:l.length<=1000000):A2 prog 48 [.sl (l.map v7),.fn g [.ptr j 0 0]] [(j,⟨[c],d,false,false⟩)] id (.bool (l.any λx=>x.number==n)) []:=by
 have hI:=λid=>B5U g j c d n hc hg l id hl8;rw[←V4 _ l 0];refine w48.e.1 λE hP hR hl hid=>?_;simp[w48];have hj:=hl (j,_) (za ..);simp only at hj;have j1:=lf hj;(refine yC rfl (hI _) ?_; simp);refine yE hR [] s_ λhrn=>⟨?_,?_,?_,?_,?_,?_⟩<;>(try simp[j1]);all_goals exact K0 rfl hc
def A7W(c:UInt8):Bool:=(decide (97<=c.toNat)&&decide (c.toNat<=122))||(decide (65<=c.toNat)&&decide (c.toNat<=90))||decide (c.toNat=95)
def g9(c:UInt8):Bool:=decide (48<=c.toNat)&&decide (c.toNat<=57)
def anC(c:UInt8):Bool:=A7W c||g9 c
def B5V:List UInt8->Bool
 | []=>false
 | c::r=>A7W c&&r.all anC
def H8(s:List UInt8):Int:=if 12<s.length then 2 else if B5V s=true then 0 else 1
def A6U(c:UInt8)(id:Nat):A2 prog 232 [.int .u8 c.toNat] [] id (.bool (A7W c)) []:=by
 refine w232.e.1 λE hP hR hl hid=>?_;simp[w232];refine⟨by grind,by grind,by grind,?_⟩;exact yP hR (h1:=by simp; unfold A7W; rw[wg]; simp; omega)
def A5U(c:UInt8)(id:Nat):A2 prog 233 [.int .u8 c.toNat] [] id (.bool (g9 c)) []:=by
 refine w233.e.1 λE hP hR hl hid=>?_;simp[w233];exact yP hR (h1:=by simp; unfold g9; rw[wg]; simp; omega)
def okN:List UInt8->Bool->Bool
 | [],_=>true
 | c::r,fst=>(A7W c||(!fst&&g9 c))&&okN r false
def B8W(l:List UInt8):okN l false=l.all anC:=by
 induction l with
 | nil=>rfl
 | cons c r ih=>simp[okN,ih,anC]
def B3l(s:List UInt8)(h:s≠[]):okN s true=B5V s:=by
 cases s with
 | nil=>exact (h rfl).elim
 | cons c r=>simp[okN,B5V,B8W]
def A2w(s:List UInt8)(id:Nat):A2 prog 166 [.str s] [] id (.int .i64 (H8 s)) []:=by
 refine w166.e.1 λE hP hR hl hid=>?_;simp[w166];refine D0 (λh=>?_) (λh=>?_)
 ·simp;exact yP hR (h1:=by simp; simp at h; unfold H8; rw[zj o_])
 ·simp;have h12:¬12<s.length:=by simp at h; omega
  refine B9 (X:=Nat) (λi=>⟨[(0,true,.str s),(8,true,.int .i64 s.length),(9,true,.int .i64 i)],[],0⟩) (λi=>i<=s.length/\okN (s.drop i) (decide (i=0))=okN s true) (λi=>s.length - i) 0 ?_ ⟨o_,rfl⟩ ?_
  ·exact yW [] trivial
  ·rintro i ⟨hi,hf⟩ p hp;refine A3 4000 ?_;simp;refine D0 (λh=>?_) (λh=>?_)
   ·have h:=zq h;obtain⟨x,hx,hd⟩:=A5 h;rw[hd] at hf;simp only[okN] at hf;have hi1:IntKind.i64.wrap ((i:Int)+1)=((i+1:Nat):Int):=wrap64 o_;simp[hx];refine⟨h,?_⟩;(refine yC rfl (A6U x _) ?_; simp[hx]);refine⟨λh1 h2=>⟨⟨h1,h2⟩,h⟩,?_⟩;(refine H5 hP s_ rfl (λhc=>⟨A5U x _,by revert hc; simp; try grind,s_⟩) ?_; refine A3 4000 ?_; simp);refine⟨by grind,?_⟩;have hb:(A7W x||(!decide (i=0)&&g9 x))=!(!A7W x&&(((i:Int)==0)||!g9 x)):=by
     have:decide (i=0)=((i:Int)==0):=by rw[wg]; simp
     rw[this]; simp
    rw[hb] at hf;refine D0 (λh1=>?_) (λh1=>?_)
    ·simp;rw[h1] at hf;simp at hf;have hne:s≠[]:=(by rintro rfl; simp at h);exact yP hR (h1:=by simp; unfold H8; rw[zf h12,←B3l s hne,hf]; rfl)
    ·simp;rw[h1] at hf;simp at hf;refine hp _ (i+1) ⟨h,v_ hf⟩ o_ ?_;refine yV [] s_ λhrn=>⟨?_,?_,?_,?_,?_⟩<;>(try simp[hi1])
   ·have h:=zo h;simp;rw[zp o_] at hf;simp only[okN] at hf;refine D0 (λh=>?_) (λh=>?_)
    ·simp;exact yP hR (h1:=by simp; simp at h; subst h; rfl)
    ·simp;have hne:s≠[]:=(v_ h);exact yP hR (h1:=by simp; unfold H8; rw[zf h12,←B3l s hne,←hf]; rfl)
def tId:List UInt8:=[105,100]
def A7o:List UInt8:=[78,117,109,98,101,114]
def B6q:List UInt8:=[84,101,120,116]
def C6W(l:List Fd)(n:List UInt8):Bool:=l.any λx=>x.name==n
def B1f(l:List Ty)(n:List UInt8):Bool:=l.any λx=>x.name==n
def v8(l:List Ty)(f:Fd)(ahead:List Fd):Int :=
 if H8 f.name≠0 then H8 f.name else if f.name=tId then 4 else if C6W ahead f.name=true then 6
 else if ¬(1<=f.kind/\f.kind<=4) then 7 else if (f.kind=1\/f.kind=2)/\f.of≠[] then 1
 else if ¬(f.kind=1\/f.kind=2)/\¬B1f l f.of=true then 5 else 0
def D2{α:Type}(f:Nat->α->Int):List α->Nat->Int
 | [],_=>0
 | x::l,i=>if f i x≠0 then f i x else D2 f l (i+1)
def A1r(l:List Ty)(i:Nat)(t:Ty):Int :=
 if H8 t.name≠0 then H8 t.name else if t.name=A7o\/t.name=B6q then 4 else if B1f (l.take i) t.name=true then 6
 else if t.fields=[] then 5 else if 6<t.fields.length then 2 else D2 (λk f=>v8 l f (t.fields.take k)) t.fields 0
def H9(l:List Ty):Int :=
 if l=[] then 5 else if 5<l.length then 2 else D2 (λi t=>A1r l i t) l 0
def C0s(l:List Fd)(n:List UInt8):decide (0<=E0 (λx=>x.name==n) l 0)=C6W l n:=V4 _ l 0
def A8f(l:List Ty)(n:List UInt8):decide (0<=E0 (λx=>x.name==n) l 0)=B1f l n:=V4 _ l 0
def B8X(l:List Ty)(n:List UInt8):decide (E0 (λx=>x.name==n) l 0<0)=!B1f l n:=by
 rw[←A8f,wg]; simp
def A9h(l:List Ty)(f:Fd)(ahead:List Fd)(id:Nat)(hl:l.length<=1000000)(ha:ahead.length<=1000000):A2 prog 197 [.sl (l.map I9),U8 f,.sl (ahead.map U8)] [] id (.int .i64 (v8 l f ahead)) []:=by
 have hF:=λn=>A1V ahead [] n;simp only[U8];refine w197.e.1 λE hP hR hl hid=>?_;simp[w197];(refine yH rfl (A2w _ _) ?_; simp);refine D0 (λh=>?_) (λh=>?_)<;>simp
 ·exact yP hR (h1:=by simp; simp at h; unfold v8; rw[zj h])
 have h1:¬H8 f.name≠0:=by simpa using h
 refine D0 (λh=>?_) (λh=>?_)<;>simp
 ·exact yP hR (h1:=by simp; simp at h; unfold v8; rw[zf h1,zj (show f.name=tId from h)])
 have h2:¬f.name=tId:=by simpa [tId] using h
 (refine E5 hP rfl (hF _ _ o_) s_ f_ ?_; refine A3 4000 ?_; simp[C0s]);refine D0 (λh=>?_) (λh=>?_)<;>simp
 ·exact yP hR (h1:=by simp; unfold v8; rw[zf h1,zf h2,zj h])
 have h3:¬C6W ahead f.name=true:=by simpa using h
 refine D0 (λh=>?_) (λh=>?_)<;>simp
 ·exact yP hR (h1:=by simp; simp at h; unfold v8; rw[zf h1,zf h2,zf h3,zj o_])
 have h4:¬¬(1<=f.kind/\f.kind<=4):=by simp at h; omega
 refine D0 (λh=>?_) (λh=>?_)<;>simp
 ·exact yP hR (h1:=by simp; simp at h; unfold v8; rw[zf h1,zf h2,zf h3,zf h4,zj h])
 have h5:¬((f.kind=1\/f.kind=2)/\f.of≠[]):=by simpa using h
 (repeat (refine And.intro (by first|assumption|omega|(simp; omega)|(simp_all; done)) ?_));(refine H5 hP s_ rfl (λhc=>⟨o8 l f.of _ o_,by revert hc; simp; try grind,s_⟩) ?_; refine A3 4000 ?_; simp[B8X]);refine D0 (λh=>?_) (λh=>?_)<;>simp
 ·exact yP hR (h1:=by simp; simp at h; unfold v8; rw[zf h1,zf h2,zf h3,zf h4,zf h5,zj (v_ h)])
 have h6:¬(¬(f.kind=1\/f.kind=2)/\¬B1f l f.of=true):=by simpa using h
 exact yP hR (h1:=by simp; unfold v8; rw[zf h1,zf h2,zf h3,zf h4,zf h5,zf h6])
def B1g(l:List Ty)(i:Nat)(t:Ty)(id:Nat)(hl5:l.length<=5)(hi:l[i]?=some t):A2 prog 128 [.sl (l.map I9),.int .i64 i] [] id (.int .i64 (A1r l i t)) []:=by
 have hin:i<l.length:=(ze.1 hi).1;have hF:=o8 (l.take i) t.name;rw[yt] at hF;have hFd:=λf k id h=>A9h l f (t.fields.take k) id o_ h;simp only[U8,yt] at hFd;refine w128.e.1 λE hP hR hl hid=>?_;simp[w128,hi,I9];refine⟨hin,?_⟩;(refine yH rfl (A2w _ _) ?_; simp);refine D0 (λh=>?_) (λh=>?_)<;>simp
 ·exact yP hR (h1:=by simp; simp at h; unfold A1r; rw[zj h])
 have h1:¬H8 t.name≠0:=by simpa using h
 refine D0 (λh=>?_) (λh=>?_)<;>simp
 ·exact yP hR (h1:=by simp; simp at h; unfold A1r; rw[zf h1,zj (show t.name=A7o\/t.name=B6q from h)])
 have h2:¬(t.name=A7o\/t.name=B6q):=by simpa [A7o,B6q] using h
 refine⟨⟨λa _=>rfl,o_⟩,?_⟩;(refine yC rfl (hF _ m_) ?_; simp[A8f]);refine D0 (λh=>?_) (λh=>?_)<;>simp
 ·exact yP hR (h1:=by simp; unfold A1r; rw[zf h1,zf h2,zj h])
 have h3:¬B1f (l.take i) t.name=true:=by simpa using h
 refine D0 (λh=>?_) (λh=>?_)<;>simp
 ·exact yP hR (h1:=by simp; simp at h; unfold A1r; rw[zf h1,zf h2,zf h3,zj h])
 have h4:¬t.fields=[]:=by simpa using h
 refine D0 (λh=>?_) (λh=>?_)<;>simp
 ·exact yP hR (h1:=by simp; simp at h; unfold A1r; rw[zf h1,zf h2,zf h3,zf h4,zj o_])
 have h5:¬6<t.fields.length:=by simp at h; omega
 have hft:A1r l i t=D2 (λk f=>v8 l f (t.fields.take k)) t.fields 0:=by unfold A1r; rw[zf h1,zf h2,zf h3,zf h4,zf h5]
 rw[hft] at hR;refine B9 (X:=Nat) (λk=>⟨[(0,true,.sl (l.map I9)),(5,true,.ptr E.n0 0 0),(48,true,.sl (t.fields.map U8)),(49,true,.int .i64 t.fields.length),(50,true,.int .i64 k)],[(E.n0,some ⟨[.agg [.str t.name,.sl (t.fields.map U8)]],.agg [.str [],.nils],false,false⟩)],1⟩) (λk=>k<=t.fields.length/\D2 (λk f=>v8 l f (t.fields.take k)) (t.fields.drop k) k=D2 (λk f=>v8 l f (t.fields.take k)) t.fields 0) (λk=>t.fields.length - k) 0 ?_ ⟨o_,rfl⟩ ?_
 ·exact yW [(E.n0,E.n0+5120)] trivial
 ·rintro k ⟨hk,hf⟩ p hp;refine A3 4000 ?_;simp;refine D0 (λh=>?_) (λh=>?_)
  ·have h:=zq h;obtain⟨x,hx,hd⟩:=A5 h;rw[hd] at hf;simp only[D2] at hf;have hi1:IntKind.i64.wrap ((k:Int)+1)=((k+1:Nat):Int):=wrap64 o_;simp[hx,U8];refine⟨h,hk,?_⟩;(refine yH rfl (hFd x k _ m_) ?_; simp);refine D0 (λh1=>?_) (λh1=>?_)
   ·simp;rw[zj (v_ h1)] at hf;exact yP hR (h1:=by simp; exact hf)
   ·simp;rw[zf (v_ h1)] at hf;refine hp _ (k+1) ⟨h,hf⟩ o_ ?_;refine yV [(E.n0,E.n0)] s_ λhrn=>⟨?_,?_,?_,?_,?_⟩<;>(try simp[hi1])
  ·have h:=zo h;simp;rw[zp o_] at hf;exact yP hR (h1:=by simp; exact hf)
def A4J(l:List Ty)(id:Nat):A2 prog 65 [.sl (l.map I9)] [] id (.int .i64 (H9 l)) []:=by
 refine w65.e.1 λE hP hR hl hid=>?_;simp[w65];refine D0 (λh=>?_) (λh=>?_)<;>simp
 ·exact yP hR (h1:=by simp; simp at h; unfold H9; rw[zj h])
 have h1:¬l=[]:=by simpa using h
 refine D0 (λh=>?_) (λh=>?_)<;>simp
 ·exact yP hR (h1:=by simp; simp at h; unfold H9; rw[zf h1,zj o_])
 have h2:¬5<l.length:=by simp at h; omega
 have hft:H9 l=D2 (λi t=>A1r l i t) l 0:=by unfold H9; rw[zf h1,zf h2]
 rw[hft] at hR;refine B9 (X:=Nat) (λi=>⟨[(0,true,.sl (l.map I9)),(14,true,.int .i64 l.length),(15,true,.int .i64 i)],[],0⟩) (λi=>i<=l.length/\D2 (λi t=>A1r l i t) (l.drop i) i=D2 (λi t=>A1r l i t) l 0) (λi=>l.length - i) 0 ?_ ⟨o_,rfl⟩ ?_
 ·exact yW [] trivial
 ·rintro i ⟨hi,hf⟩ p hp;refine A3 4000 ?_;simp;refine D0 (λh=>?_) (λh=>?_)
  ·have h:=zq h;obtain⟨x,hx,hd⟩:=A5 h;rw[hd] at hf;simp only[D2] at hf;have hi1:IntKind.i64.wrap ((i:Int)+1)=((i+1:Nat):Int):=wrap64 o_;simp;(refine yH rfl (B1g l i x _ o_ hx) ?_; simp);refine D0 (λh1=>?_) (λh1=>?_)
   ·simp;rw[zj (v_ h1)] at hf;exact yP hR (h1:=by simp; exact hf)
   ·simp;rw[zf (v_ h1)] at hf;refine hp _ (i+1) ⟨h,hf⟩ o_ ?_;refine yV [] s_ λhrn=>⟨?_,?_,?_,?_,?_⟩<;>(try simp[hi1])
  ·have h:=zo h;simp;rw[zp o_] at hf;exact yP hR (h1:=by simp; exact hf)
structure Cl where
 n:Int
 text:List UInt8
 ids:List Int
structure Tg where
 type:Int
 id:Int
 cells:List Cl
structure H6 where
 types:List Ty
 things:List Tg
def eI(n:Int):AV:=.int .i64 n
def eCl(c:Cl):AV:=.agg [.int .i64 c.n,.str c.text,.sl (c.ids.map eI)]
def Q9(t:Tg):AV:=.agg [.int .i64 t.type,.int .i64 t.id,.sl (t.cells.map eCl)]
def H4(s:H6):AV:=.agg [.sl (s.types.map I9),.sl (s.things.map Q9)]
theorem C5W(n:Int):eI n = .int .i64 n:=rfl
theorem B1h(c:Cl):eCl c = .agg [.int .i64 c.n,.str c.text,.sl (c.ids.map eI)]:=rfl
theorem A3f(t:Tg):Q9 t = .agg [.int .i64 t.type,.int .i64 t.id,.sl (t.cells.map eCl)]:=rfl
theorem C48(n:Int):(eI n).pureB=true:=rfl
@[simp] theorem A1J (l:List Int):F8 (l.map eI)=true:=E9 C48 l
@[simp] theorem C6X (S:Nat->Prop) (l:List Int):F4 S (l.map eI):=A4 _ (A1J l)
@[simp] theorem C0t (R:Rn) (S:Nat->Prop) (l:List Int):N8 R S (l.map eI) (l.map eI):=B4 rfl (A1J l)
def C0u(c:Cl):(eCl c).pureB=true:=by simp[eCl]
@[simp] theorem C0v (l:List Cl):F8 (l.map eCl)=true:=E9 C0u l
@[simp] theorem C7c (S:Nat->Prop) (l:List Cl):F4 S (l.map eCl):=A4 _ (C0v l)
def A8g(t:Tg):(Q9 t).pureB=true:=by simp[Q9]
@[simp] theorem B3m (l:List Tg):F8 (l.map Q9)=true:=E9 A8g l
@[simp] theorem C7d (S:Nat->Prop) (l:List Tg):F4 S (l.map Q9):=A4 _ (B3m l)
def A0Z(ta ia tb ib:Int):Int:=if ta≠tb then IntKind.i64.wrap (ta - tb) else IntKind.i64.wrap (ia - ib)
def A3g(ta ia tb ib:Int)(x y:AV)(id:Nat):A2 prog 67 [.agg [.int .i64 ta,.int .i64 ia,x],.agg [.int .i64 tb,.int .i64 ib,y]] [] id (.int .i64 (A0Z ta ia tb ib)) []:=by
 refine w67.e.1 λE hP hR hl hid=>?_;simp[w67];refine D0 (λh=>?_) (λh=>?_)<;>simp
 ·exact yP hR (h1:=by simp; simp at h; unfold A0Z; rw[zj h])
 ·exact yP hR (h1:=by simp; simp at h; unfold A0Z; rw[zf (v_ h)])
def H1(n a b:Int)(id:Nat):A2 prog 129 [.int .i64 n,.int .i64 a,.int .i64 b] [] id (.bool (decide (a<=n)&&decide (n<=b))) []:=by
 refine w129.e.1 λE hP hR hl hid=>?_;simp[w129];(repeat (refine And.intro (by first|assumption|omega|(simp; omega)|(simp_all; done)) ?_));exact yP hR
def j0(k:Int):Bool:=decide (k=3)||decide (k=4)
def A8h(k:Int)(id:Nat):A2 prog 198 [.int .i64 k] [] id (.bool (j0 k)) []:=by
 refine w198.e.1 λE hP hR hl hid=>?_;simp[w198];(repeat (refine And.intro (by first|assumption|omega|(simp; omega)|(simp_all; done)) ?_));exact yP hR (h1:=by simp; unfold j0; rw[wg]; simp)
def bs(f:Nat->Int)(i j:Nat):Nat:=if h:i<j then (if f ((i+j) / 2)<0 then bs f ((i+j) / 2+1) j else bs f i ((i+j) / 2)) else i
termination_by j - i
def B6r(f:Nat->Int)(i j:Nat)(h:i<=j):i<=bs f i j/\bs f i j<=j:=by
 fun_induction bs f i j with
 | case1 i j h hf ih=>have:=ih o_; omega
 | case2 i j h hf ih=>have:=ih o_; omega
 | case3 i j h=>omega
def J7(l:List Tg)(kind id:Int)(k:Nat):Int:=match l[k]? with
 | some t=>A0Z t.type t.id kind id
 | none=>0
def C3(l:List Tg)(kind id:Int):Nat:=bs (J7 l kind id) 0 l.length
def F2(l:List Tg)(kind id:Int):Bool:=decide (C3 l kind id<l.length)&&decide (J7 l kind id (C3 l kind id)=0)
def C0w{i j:Nat}(hi:i<1000000)(hj:j<1000000):IntKind.i64.wrap (IntKind.u64.wrap (IntKind.i64.wrap ((i:Int)+j)) / 2)=(((i+j) / 2:Nat):Int):=by
 have a:IntKind.i64.wrap ((i:Int)+j)=((i+j:Nat):Int):=by rw[wrap64 o_]; omega
 have b:IntKind.u64.wrap ((i+j:Nat):Int)=((i+j:Nat):Int):=IntWalk.u64_in _ o_;rw[a,b,wrap64 o_];omega
def B1i(l:List Tg)(kind tid:Int)(id:Nat)(hl:l.length<1000000):A2 prog 132 [.sl (l.map Q9),.agg [.int .i64 kind,.int .i64 tid,.nils],.fn 67 []] [] id (.tup [.int .i64 (C3 l kind tid),.bool (F2 l kind tid)]) []:=by
 refine w132.e.1 λE hP hR hl hid=>?_;simp[w132];refine B9 (X:=Nat×Nat) (λq=>⟨[(0,true,.sl (l.map Q9)),(2,true,.fn 67 []),(4,true,.ptr E.n0 0 0),(8,true,.int .i64 l.length),(9,true,.int .i64 q.1),(10,true,.int .i64 q.2)],[(E.n0,some ⟨[.agg [.int .i64 kind,.int .i64 tid,.nils]],.agg [.int .i64 0,.int .i64 0,.nils],false,false⟩)],1⟩) (λq=>q.1<=q.2/\q.2<=l.length/\bs (J7 l kind tid) q.1 q.2=C3 l kind tid) (λq=>q.2 - q.1) (0,l.length) ?_ ⟨s_,s_,rfl⟩ ?_
 ·exact yW [(E.n0,E.n0)] trivial
 ·rintro⟨i,j⟩ ⟨hij,hj,hf⟩ p hp;simp only at hij hj hf;refine A3 4000 ?_;simp;refine D0 (λh=>?_) (λh=>?_)
  ·have h:=zq h;have h':i<j:=o_;have hk:(i+j) / 2<l.length:=o_;obtain⟨t,ht⟩:∃t,l[(i+j) / 2]?=some t:=⟨_,zc hk⟩;have hh:=C0w (i:=i) (j:=j) o_ o_;have h64:(1:Int)<=↑IntKind.u64.bits:=d_;generalize hm:(i+j) / 2=m at hh hk ht;simp[hh,ht,A3f t];refine⟨h64,hk,?_⟩;refine E8 hP rfl rfl (A3g t.type t.id kind tid (.sl (t.cells.map eCl)) .nils _) s_ f_ ?_;refine A3 4000 ?_;have hfo:J7 l kind tid m=A0Z t.type t.id kind tid:=(by simp only[J7,ht]);rw[bs,dif_pos h',hm,hfo] at hf;simp;refine D0 (λh1=>?_) (λh1=>?_)
   ·have hm1:IntKind.i64.wrap ((m:Int)+1)=((m+1:Nat):Int):=wrap64 o_;simp at h1;rw[zj h1] at hf;simp;refine hp _ (m+1,j) ⟨n_,hj,hf⟩ n_ ?_;refine yV [(E.n0,E.n0)] s_ λhrn=>⟨?_,?_,?_,?_,?_⟩<;>(try simp[hm1])
   ·simp at h1;rw[zf o_] at hf;simp;refine hp _ (i,m) ⟨n_,n_,hf⟩ n_ ?_;exact yW [(E.n0,E.n0)] trivial
  ·have h:=zo h;have he:i=C3 l kind tid:=(by rw[←hf,bs,dif_neg o_]);simp;by_cases hi:i<l.length
   ·obtain⟨t,ht⟩:∃t,l[i]?=some t:=⟨_,zc hi⟩;have hfo:J7 l kind tid i=A0Z t.type t.id kind tid:=(by simp only[J7,ht]);have hg:l[i]=t:=(by rw[zc hi] at ht; injection ht);simp[hi,hg,A3f t];refine A11 (.int .i64 0) s_ (λ_=>?_) (λhg=>by simp at hg);refine E8 hP rfl rfl (A3g t.type t.id kind tid (.sl (t.cells.map eCl)) .nils _) s_ f_ ?_;refine A3 4000 ?_;simp;exact yP hR (h1:=by simp; rw[←he]; refine⟨rfl,?_⟩; unfold F2; rw[←he,hfo,wg]; simp[hi])
   ·have ht:l[i]?=none:=wu o_;simp[hi];refine A11 (.int .i64 0) s_ (λhg=>by simp at hg) (λ_=>?_);refine A3 4000 ?_;simp;exact yP hR (h1:=by simp; rw[←he]; exact⟨rfl,by unfold F2; rw[←he]; simp[hi]⟩)
end Go.Am
