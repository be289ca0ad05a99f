/- Parts of the proof: an abstract machine for Go functions, and what functions of the program give back (Dk5, Dk6, Dk7, Dkp, Dk9, Dk12, CcS, Sc1, Dw1, Sc2, Sc3, Sc4, St1). No condition. -/
import Derived.Test.YtphjabjjnncebaaGreatDoorXH
import Derived.Test.YtphjabjjnncebaaGreatDoorXG
import Derived.Test.YtphjabjjnncebaaGreatDoorXE
import Derived.Test.YtphjabjjnncebaaGreatDoorXF
set_option maxRecDepth 100000
set_option linter.all false
set_option maxHeartbeats 1000000
namespace Go.Am
open Go Go.Proofs Go.RowKit Go.Proofs.Tryz
def L7(l:List (List UInt8)):List Bt:=l.flatMap λs=>(H1 s 0).bs
def B9z(s:List UInt8):(H1 s 0).bs.length<=s.length:=by
 have:=(A8I s).2.2;have:=(Y8 s 0 o_).2.2.2.2.2.1;omega
def C35(l:List (List UInt8))(syn:Int)(id:Nat)(hl8:l.length<=8)(h4:∀s∈l,s.length<=400):A2 prog 155 [.agg [.sl (l.map AV.str),.int .i64 syn]] [] id (.sl ((L7 l).map eBt)) []:=by
 refine w155.e.1 λE hP hR hl hid=>?_;simp[w155];refine C1 (X:=Nat×List Bt) (λx=>⟨[(3,true,.bsl E.n0 0 x.2.length),(10,true,.sl (l.map AV.str)),(11,true,.int .i64 l.length),(12,true,.int .i64 x.1)],[(E.n0,some ⟨x.2.map eBt,.agg [.int .i64 0,.nils],false,false⟩)],1⟩)
  (λx=>x.1<=l.length/\x.2++L7 (l.drop x.1)=L7 l/\x.2.length<=400*x.1) (λx=>l.length - x.1) (0,[]) ?_ ⟨s_,rfl,s_⟩ ?_
 ·refine D5.trans (D5.voidSlot 3 (x:=.nils) (y:=.bsl (E.n0+7168) 0 0) s_ .nils (.agg [.int .i64 0,.nils])) ?_;exact yW [(E.n0,E.n0+7168)] trivial
 ·rintro⟨i,bs⟩ ⟨hi,hf,hbl⟩ p hp;simp only at hi hf hbl hp;refine A3 4000 ?_;simp;refine D4 (λh=>?_) (λh=>?_)
  ·have h:=zr h;obtain⟨x,hx,hd⟩:=A8 h;have hi1:IntKind.i64.wrap ((i:Int)+1)=((i+1:Nat):Int):=wrap64 o_;have hx4:=h4 x (zg hx);have hcb:=B9z x;simp[hx];refine⟨h,?_⟩;(refine yH rfl (B4f x _ hx4) ?_; simp);refine⟨⟨λa _=>⟨rfl,λy hy=>?_⟩,o_,o_⟩,hp _ (i+1,bs++(H1 x 0).bs) ⟨h,?_,m_⟩ (by simp only[]; omega) ?_⟩
   ·have hy:y∈(eBt a).cells:=hy;simp only[eBt,AV.cells,zh,yv,or_false] at hy;rcases hy with rfl|rfl<;>rfl
   ·rw[←hf,hd]; simp[L7]
   ·refine yV [(E.n0,E.n0+15361)] (t_ hi1) λhrn=>⟨?_,?_,?_,?_,?_⟩<;>(try simp[hi1]);exact B4 rfl (B3 (A5F _) (A5F _))
  ·have h:=zq h;simp;rw[zo o_] at hf;have hf:bs=L7 l:=(by simpa [L7] using hf);rw[←hf] at hR;have hrn:F3 []:=(by simp[A4 hid]);rw[hR];refine I6 f_ (by simp[A4 hid]<;>exact⟨rfl,rfl⟩) [] hrn ⟨?_,?_,?_,?_,?_,?_⟩<;>(try simp[A4 hid])
@[simp] theorem C6v (l:List (List UInt8)) (s:List UInt8):(A7G l s).length=l.length:=by simp[A7G]
@[simp] theorem C6S (l:List (List UInt8)) (n:Nat):(A5G l n).length=l.length:=by simp[A5G]
@[simp] theorem C6T (l:List (List UInt8)) (s:List UInt8) (f:List UInt8->AV):List.take l.length ((A7G l s).map f)=(A7G l s).map f:=zm s_
@[simp] theorem C5Q (l:List (List UInt8)) (n:Nat) (f:List UInt8->AV):List.take l.length ((A5G l n).map f)=(A5G l n).map f:=zm s_
structure WhS where
 seg:List (List UInt8)
 syn:Nat
def whole(l:List (List UInt8)):WhS:=⟨A5G l (H1 (F8 l) 0).last,(H1 (F8 l) 0).last⟩
def A8J(l:List (List UInt8))(syn:Int)(id:Nat)(hl8:l.length<=8)(h4:(F8 l).length<=400):A2 prog 50 [.agg [.sl (l.map AV.str),.int .i64 syn]] [] id (.agg [.sl ((whole l).seg.map AV.str),.int .i64 (whole l).syn]) []:=by
 have hown:=B4g l syn;have hend:=λk j id (h:k≠j)=>B66 k j l syn id hl8 h4 h;have htrim:=λk j id (h:k≠j)=>C31 k j l (H1 (F8 l) 0).last (H1 (F8 l) 0).last id hl8 (Y8 (F8 l) 0 o_).2.1 h4 h;simp only[bxK,bxS] at hown hend htrim;refine w50.e.1 λE hP hR hl hid=>?_;simp[w50];(refine yH rfl (hown _ o_) ?_; simp);simp[yq];(refine yC rfl (hend (E.n0+3072) (E.n0+3073) _ s_) ?_; simp[yq]);(refine yC rfl (htrim (E.n0+3072) (E.n0+3073) _ s_) ?_; simp[yq]);have hrn:F3 []:=by simp[whole,A4 hid]
 rw[hR];refine I6 f_ (by simp[whole,A4 hid]<;>exact⟨rfl,rfl⟩) [] hrn ⟨?_,?_,?_,?_,?_,?_⟩<;>(try simp[whole,A4 hid])
def A1O{d:Dk}(h:H5 d≠2):d.seg.length<=8/\∀s∈d.seg,s.length<=400:=by
 unfold H5 at h;split at h
 ·exact (h rfl).elim
 ·rename_i h1;simp at h1;exact⟨h1.1,h1.2⟩
def B7l{l:List (List UInt8)}(h:l≠[]):F8 l∈l:=zg (A0A h)
def A5H{l:List (List UInt8)}(h:∀s∈l,s.length<=400):(F8 l).length<=400:=by
 by_cases hl:l=[]
 ·subst hl; simp[F8]
 ·exact h _ (B7l hl)
def C36(d:Dk)(id:Nat):A2 prog 89 [eDk d] [] id (.tup [.sl ((if H5 d=0 then L7 d.seg else []).map eBt),eDk (if H5 d=0 then ⟨(whole d.seg).seg,(whole d.seg).syn⟩ else ⟨[],0⟩),.int .i64 (H5 d)]) []:=by
 have hck:=A6G d;simp only[eDk] at hck ⊢;refine w89.e.1 λE hP hR hl hid=>?_;simp[w89];(refine yH rfl (hck _) ?_; simp);refine D4 (λh=>?_) (λh=>?_)
 ·simp;have h':¬H5 d=0:=by simpa using h
  simp only[zf h'] at hR;exact yF hR [] (A4 hid)
 ·simp;have h':H5 d=0:=by simpa using h
  simp only[zj h'] at hR;obtain⟨h8,h4⟩:=A1O (by rw[h']; decide);(refine yH rfl (C35 d.seg d.syn _ h8 h4) ?_; simp);(refine yH rfl (A8J d.seg d.syn _ h8 (A5H h4)) ?_; simp);exact yF hR [] (a_ h' (A4 hid))
structure ApS where
 d:Dk
 e:Int
def M9(d:Dk)(b:Bt):ApS :=
 if H5 d≠0 then ⟨⟨[],0⟩,H5 d⟩
 else if J0 b≠0 then ⟨⟨[],0⟩,J0 b⟩
 else if (H1 (F8 d.seg) 0).last<(F8 d.seg).length then ⟨⟨[],0⟩,4⟩
 else if d.seg≠[]/\(F8 d.seg).length+(O2 b).length<=400 then ⟨⟨A7G d.seg (F8 d.seg++O2 b),d.syn⟩,0⟩
 else if d.seg.length=8 then ⟨⟨[],0⟩,2⟩
 else ⟨⟨d.seg++[O2 b],0⟩,0⟩
def B7m(d:Dk)(b:Bt)(id:Nat):A2 prog 87 [eDk d,eBt b] [] id (.tup [eDk (M9 d b).d,.int .i64 (M9 d b).e]) []:=by
 have hck:=A6G d;have hbk:=A9z b;have hby:=λid (h:J0 b=0)=>B9w b id (A2f h).2.2.2 (A2f h).2.2.1;have hown:=B4g d.seg d.syn;have htorn:=λk j id (h8:d.seg.length<=8) (h4:(F8 d.seg).length<=400) (h:k≠j)=>B67 k j d.seg d.syn id h8 h4 h;have hpa:=λk j id (h1) (h2) (h3) (h:k≠j)=>C32 k j d.seg d.syn (O2 b) id h1 h2 h3 h;have hpb:=λk j id (h1) (h2) (h3) (h4) (h:k≠j)=>C33 k j d.seg d.syn (O2 b) id h1 h2 h3 h4 h;have hpc:=λk j id (h1) (h2) (h3) (h4) (h:k≠j)=>C34 k j d.seg d.syn (O2 b) id h1 h2 h3 h4 h;simp only[eDk,eBt,bxK,bxS] at *;refine w87.e.1 λE hP hR hl hid=>?_;simp[w87];(refine yH rfl (hck _) ?_; simp);refine D4 (λh=>?_) (λh=>?_)
 ·have h':H5 d=0:=by simpa using h
  obtain⟨h8,h4⟩:=A1O (by rw[h']; decide);have hl4:=A5H h4;simp;(refine yH rfl (hbk _) ?_; simp);refine D4 (λh1=>?_) (λh1=>?_)
  ·simp;have h1':J0 b≠0:=(v_ h1);have hv:M9 d b=⟨⟨[],0⟩,J0 b⟩:=(by unfold M9; rw[zf (t_ h'),zj h1']);rw[hv] at hR;exact yF hR [] (A4 hid)
  ·simp;have h1':J0 b=0:=(v_ h1);have hbl:(O2 b).length<=400:=(by have:=A6x b h1'; simp[O2]; omega);(refine yC rfl (hown _ o_) ?_; simp[yq]);(refine yC rfl (htorn (E.n0+15360) (E.n0+15361) _ h8 hl4 s_) ?_; simp[yq]);refine D4 (λh2=>?_) (λh2=>?_)
   ·simp;have h2':=zr h2;have hv:M9 d b=⟨⟨[],0⟩,4⟩:=(by unfold M9; rw[zf (t_ h'),zf (t_ h1'),zj h2']);rw[hv] at hR;exact yF hR [] (A4 hid)
   ·simp;have h2':=zq h2;(refine yH rfl (hby _ h1') ?_; simp);by_cases hp:d.seg≠[]/\(F8 d.seg).length+(O2 b).length<=400
    ·have hv:M9 d b=⟨⟨A7G d.seg (F8 d.seg++O2 b),d.syn⟩,0⟩:=(by unfold M9; rw[zf (t_ h'),zf (t_ h1'),zf h2',zj hp]);rw[hv] at hR;(refine yC rfl (hpa (E.n0+15360) (E.n0+15361) _ h8 hp.1 hp.2 s_) ?_; simp[yq]);have hrn:F3 []:=(by simp[A4 hid]);rw[hR];refine I6 f_ (by simp[A4 hid]<;>exact⟨rfl,rfl⟩) [] hrn ⟨?_,?_,?_,?_,?_,?_⟩<;>(try simp[A4 hid])
    ·by_cases h88:d.seg.length=8
     ·have hv:M9 d b=⟨⟨[],0⟩,2⟩:=(by unfold M9; rw[zf (t_ h'),zf (t_ h1'),zf h2',zf hp,zj h88]);rw[hv] at hR;have hne:d.seg≠[]:=(by intro h0; rw[h0] at h88; simp at h88);(refine yC rfl (hpb (E.n0+15360) (E.n0+15361) _ h88 (λh0=>hp ⟨hne,h0⟩) hl4 o_ s_) ?_; simp[yq]);exact yF hR [] (A4 hid)
     ·have hv:M9 d b=⟨⟨d.seg++[O2 b],0⟩,0⟩:=(by unfold M9; rw[zf (t_ h'),zf (t_ h1'),zf h2',zf hp,zf h88]);rw[hv] at hR;have hor:d.seg=[]\/¬(F8 d.seg).length+(O2 b).length<=400:=by
       by_cases hne:d.seg=[]
       ·exact .inl hne
       ·exact .inr λh0=>hp ⟨hne,h0⟩
      (refine yC rfl (hpc (E.n0+15360) (E.n0+15361) _ o_ hor hl4 o_ s_) ?_; simp[yq]);have hrn:F3 []:=(by simp[A4 hid]);rw[hR];refine I6 f_ (by simp[A4 hid]<;>exact⟨rfl,rfl⟩) [] hrn ⟨?_,?_,?_,?_,?_,?_⟩<;>(try simp[A4 hid]);exact⟨zm s_,by rw[zm s_]; exact A5 _ (B3 (A1B _) rfl)⟩
 ·have h':¬H5 d=0:=by simpa using h
  simp;refine A7 (v_ h') ?_;simp;have hv:M9 d b=⟨⟨[],0⟩,H5 d⟩:=by unfold M9; rw[zj h']
  rw[hv] at hR;exact yF hR [] (A4 hid)
def A4K(d:Dk):ApS :=
 if H5 d≠0 then ⟨⟨[],0⟩,H5 d⟩
 else if (H1 (F8 d.seg) 0).last<(F8 d.seg).length then ⟨⟨[],0⟩,4⟩
 else ⟨⟨d.seg,(F8 d.seg).length⟩,0⟩
def C37(d:Dk)(id:Nat):A2 prog 90 [eDk d] [] id (.tup [eDk (A4K d).d,.int .i64 (A4K d).e]) []:=by
 have hck:=A6G d;have hown:=B4g d.seg d.syn;have htorn:=λk j id (h8:d.seg.length<=8) (h4:(F8 d.seg).length<=400) (h:k≠j)=>B67 k j d.seg d.syn id h8 h4 h;have hla:=C2z d.seg d.syn;simp only[eDk,bxK,bxS] at *;refine w90.e.1 λE hP hR hl hid=>?_;simp[w90];(refine yH rfl (hck _) ?_; simp);refine D4 (λh=>?_) (λh=>?_)
 ·have h':¬H5 d=0:=by simpa using h
  simp;have hv:A4K d=⟨⟨[],0⟩,H5 d⟩:=by unfold A4K; rw[zj h']
  rw[hv] at hR;exact yF hR [] (A4 hid)
 ·have h':H5 d=0:=by simpa using h
  obtain⟨h8,h4⟩:=A1O (by rw[h']; decide);have hl4:=A5H h4;simp;(refine yC rfl (hown _ o_) ?_; simp[yq]);(refine yC rfl (htorn (E.n0+9216) (E.n0+9217) _ h8 hl4 s_) ?_; simp[yq]);refine D4 (λh2=>?_) (λh2=>?_)
  ·simp;have h2':=zr h2;have hv:A4K d=⟨⟨[],0⟩,4⟩:=(by unfold A4K; rw[zf (t_ h'),zj h2']);rw[hv] at hR;exact yF hR [] (A4 hid)
  ·simp;have h2':=zq h2;have hv:A4K d=⟨⟨d.seg,(F8 d.seg).length⟩,0⟩:=(by unfold A4K; rw[zf (t_ h'),zf h2']);rw[hv] at hR;(refine yC rfl (hla _ o_) ?_; simp[yq]);have hrn:F3 []:=(by simp[A4 hid]);rw[hR];refine I6 f_ (by simp[A4 hid]<;>exact⟨rfl,rfl⟩) [] hrn ⟨?_,?_,?_,?_,?_,?_⟩<;>(try simp[A4 hid])
def B4h(s:List UInt8)(r:List (List UInt8)):F8 (s::r)=if r=[] then s else F8 r:=by
 cases r with
 | nil=>rfl
 | cons a r=>simp[F8,List.getLast?_cons_cons]
def A8K:∀(l:List (List UInt8)) (e0:List Nat),(q8 l e0).e=0->(∀s∈l,(H1 s 0).e=5)/\(q8 l e0).ends=(if l=[] then e0 else (H1 (F8 l) 0).ends)/\(∀(i:Nat) s,i+1<l.length->l[i]?=some s->(H1 s 0).last=s.length)
 | [],e0,_=>⟨s_,rfl,s_⟩
 | s::r,e0,h=>by
  simp only[q8] at h ⊢;split at h
  ·exact ((Y8 s 0 o_).2.2.2.2.1 h).elim
  ·rename_i h1;rw[zf h1];split at h
   ·simp at h
   ·rename_i h2;rw[zf h2];obtain⟨i1,i2,i3⟩:=A8K r _ h;have h5:(H1 s 0).e=5:=zl h1;refine⟨λx hx=>?_,?_,λi x hi hx=>?_⟩
    ·rcases zh.1 hx with rfl|hx
     ·exact h5
     ·exact i1 x hx
    ·rw[i2,B4h];simp only[reduceCtorEq,if_false];split<;>rfl
    ·cases i with
     | zero =>
      simp at hx;subst hx;have hr:r≠[]:=(by intro h0; subst h0; simp at hi);have:=(Y8 s 0 o_).2.1;have:¬(H1 s 0).last<s.length:=λh0=>h2 ⟨hr,h0⟩;omega
     | succ i=>exact i3 i x (v_ hi) (v_ hx)
def C38:H1 [] 0=⟨[],[0],0,5⟩:=by
 rw[A2F d_];have:(C9 (List.drop 0 [])).e=5:=by decide
 rw[this]
def B7n(l:List (List UInt8))(h:(q8 l [0]).e=0):(q8 l [0]).ends=(H1 (F8 l) 0).ends:=by
 rw[(A8K l [0] h).2.1];split
 ·rename_i h0; subst h0;rw[show F8 []=[] from rfl,C38]
 ·rfl
def B1D{d:Dk}(h:H5 d=0):(q8 d.seg [0]).e=0/\0<=d.syn/\d.syn<=(F8 d.seg).length/\d.syn.toNat∈(H1 (F8 d.seg) 0).ends:=by
 unfold H5 at h;split at h
 ·simp at h
 ·split at h
  ·rename_i h1; exact (h1 h).elim
  ·rename_i h1;have h1:(q8 d.seg [0]).e=0:=zl h1;split at h
   ·rename_i h2;rw[B7n _ h1] at h2;simp only[td,beq_iff_eq] at h2;obtain⟨x,hx,hs⟩:=h2;have hf:=Y8 (F8 d.seg) 0 o_;have:=hf.2.2.2.1 x hx;refine⟨h1,o_,o_,?_⟩;rw[hs,uv]; exact hx
   ·simp at h
def A3P(a b:Dk):Bool:=a.syn==b.syn&&A2E (λx y=>x==y) a.seg b.seg
def B4i(a b:Dk):A3P a b=true↔a=b:=by
 obtain⟨l,n⟩:=a;obtain⟨l',n'⟩:=b;simp[A3P,B00 (f:=λ(x y:List UInt8)=>x==y) s_,and_comm]
def B30(a b:Dk)(id:Nat)(hl:a.seg.length<9223372036854775807):A2 prog 34 [eDk a,eDk b] [] id (.bool (A3P a b)) []:=by
 simp only[eDk];refine w34.e.1 λE hP hR hl hid=>?_;simp[w34];refine D4 (λh=>?_) (λh=>?_)
 ·simp;have hv:A3P a b=false:=by
   unfold A3P;by_cases h1:a.syn=b.syn
   ·have h2:a.seg.length≠b.seg.length:=(by simp[h1] at h; omega);rw[B2v h2]; simp
   ·simp[h1]
  rw[hv] at hR;exact yP hR
 ·simp;have h1:a.syn=b.syn:=by simp at h; exact h.1
  have h2:a.seg.length=b.seg.length:=by simp[h1] at h; omega
  have hv:A3P a b=A2E (λx y=>x==y) a.seg b.seg:=by simp[A3P,h1]
  rw[hv] at hR;refine C1 (X:=Nat) (λi=>⟨[(2,true,.ptr E.n0 0 0),(3,true,.ptr (E.n0+1) 0 0),(5,true,.int .i64 i)],[(E.n0,some ⟨[.agg [.sl (a.seg.map AV.str),.int .i64 a.syn]],.agg [.nils,.int .i64 0],false,false⟩),(E.n0+1,some ⟨[.agg [.sl (b.seg.map AV.str),.int .i64 b.syn]],.agg [.nils,.int .i64 0],false,false⟩)],2⟩)
   (λi=>i<=a.seg.length/\A2E (λx y=>x==y) (a.seg.drop i) (b.seg.drop i)=A2E (λx y=>x==y) a.seg b.seg) (λi=>a.seg.length - i) 0 ?_ ⟨o_,rfl⟩ ?_
  ·exact yW [(E.n0,E.n0),(E.n0+1,E.n0+1024)] trivial
  ·rintro i ⟨hi,hf⟩ p hp;refine A3 4000 ?_;simp;refine D4 (λh=>?_) (λh=>?_)
   ·have h:=zr h;obtain⟨x,hx,hd⟩:=A8 h;obtain⟨y,hy,hd'⟩:=A8 (l:=b.seg) (i:=i) o_;rw[hd,hd'] at hf;simp only[A2E] at hf;have hi1:IntKind.i64.wrap ((i:Int)+1)=((i+1:Nat):Int):=wrap64 o_;simp[hx,hy];(repeat (refine And.intro (by first|assumption|omega|(simp; omega)|(simp_all; done)) ?_));refine D4 (λh3=>?_) (λh3=>?_)
    ·simp;have h3':(x==y)=false:=(v_ h3);rw[h3',se] at hf;exact yP hR (h1:=by simp; exact hf.symm)
    ·simp;have h3':(x==y)=true:=(v_ h3);rw[h3',tr] at hf;refine hp _ (i+1) ⟨h,hf⟩ o_ ?_;exact yW [(E.n0,E.n0),(E.n0+1,E.n0+1)] hi1
   ·have h:=zq h;simp;rw[zo o_,zo o_] at hf;exact yP hR (h1:=by simp; exact hf.symm)
end Go.Am
namespace Go.Am
open Go Go.RowKit Go.Proofs.Tryz
/-! ### The examples of diskBegun -/
end Go.Am
namespace Go.Am
open Go Go.Proofs Go.RowKit Go.Proofs.Tryz
/-! ### The plain law: what is open,what is behind,a crash -/
structure C8C(l:List (List UInt8)):Prop where
 h8:l.length<=8
 h4:∀s∈l,s.length<=400
 h5:∀s∈l,(H1 s 0).e=5
 hf:∀(i:Nat) s,i+1<l.length->l[i]?=some s->(H1 s 0).last=s.length
def C39{d:Dk}(h:H5 d=0):C8C d.seg:=by
 obtain⟨h8,h4⟩:=A1O (by rw[h]; decide);obtain⟨g1,g2,g3⟩:=A8K _ _ (B1D h).1;exact⟨h8,h4,g1,g3⟩
structure Fd where
 name:List UInt8
 kind:Int
 of:List UInt8
structure Ty where
 name:List UInt8
 fields:List Fd
def T5(f:Fd):AV:=.agg [.str f.name,.int .i64 f.kind,.str f.of]
def I7(t:Ty):AV:=.agg [.str t.name,.sl (t.fields.map T5)]
theorem B31(f:Fd):(T5 f).pureB=true:=rfl
@[simp] theorem B32 (l:List Fd):F1 (l.map T5)=true:=E4 B31 l
@[simp] theorem C6U (S:Nat->Prop) (l:List Fd):E8 S (l.map T5):=A5 _ (B32 l)
@[simp] theorem C7z (R:Rn) (S:Nat->Prop) (l:List Fd):N8 R S (l.map T5) (l.map T5):=B4 rfl (B32 l)
def C00(t:Ty):(I7 t).pureB=true:=by simp[I7]
@[simp] theorem B33 (l:List Ty):F1 (l.map I7)=true:=E4 C00 l
@[simp] theorem C6V (S:Nat->Prop) (l:List Ty):E8 S (l.map I7):=A5 _ (B33 l)
def B9{α:Type}(p:α->Bool):List α->Nat->Int
 | [],_=>-1
 | x::l,i=>if p x then (i:Int) else B9 p l (i+1)
def V2{α:Type}(p:α->Bool):∀(l:List α) (i:Nat),decide (0<=B9 p l i)=l.any p
 | [],i=>by simp[B9]
 | x::l,i=>by
  simp only[B9,sw];by_cases hx:p x=true
  ·simp[hx]
  ·simp[hx,V2 p l (i+1)]
def B34(f:Fd)(j:Nat)(name:List UInt8)(id:Nat):A2 prog 274 [T5 f,.ptr j 0 0] [(j,⟨[.str name],.str name,false,false⟩)] id (.bool (f.name==name)) []:=by
 unfold T5;refine w274.e.1 λE hP hR hl hid=>?_;simp[w274];have hj:=hl (j,_) (za ..);simp only at hj;have j1:=lf hj;simp[j1];refine yE hR [] (by simp[j1,B9,A4 hid]) λhrn=>⟨?_,?_,?_,?_,?_,?_⟩<;>(try simp[j1,B9,A4 hid])
def C01(t:Ty)(j:Nat)(name:List UInt8)(id:Nat):A2 prog 134 [I7 t,.ptr j 0 0] [(j,⟨[.str name],.str name,false,false⟩)] id (.bool (t.name==name)) []:=by
 unfold I7;refine w134.e.1 λE hP hR hl hid=>?_;simp[w134];have hj:=hl (j,_) (za ..);simp only at hj;have j1:=lf hj;simp[j1];refine yE hR [] (by simp[j1,B9,A4 hid]) λhrn=>⟨?_,?_,?_,?_,?_,?_⟩<;>(try simp[j1,B9,A4 hid])
def B4j(l:List Fd)(j:Nat)(name:List UInt8)(id:Nat)(hl8:l.length<9223372036854775807):A2 prog 273 [.sl (l.map T5),.fn 274 [.ptr j 0 0]] [(j,⟨[.str name],.str name,false,false⟩)] id (.int .i64 (B9 (λx=>x.name==name) l 0)) []:=by
 refine w273.e.1 λE hP hR hl hid=>?_;simp[w273];have hj:=hl (j,_) (za ..);simp only at hj;have j1:=lf hj;refine C1 (X:=Nat) (λi=>⟨[(0,true,.sl (l.map T5)),(1,true,.fn 274 [.ptr j 0 0]),(7,true,.int .i64 l.length),(8,true,.int .i64 i)],[(j,some (⟨[.str name],.str name,false,false⟩))],0⟩) (λi=>i<=l.length/\B9 (λx=>x.name==name) (l.drop i) i=B9 (λx=>x.name==name) l 0) (λi=>l.length - i) 0 ?_ ⟨o_,rfl⟩ ?_
 ·exact yW [] j1
 ·rintro i ⟨hi,hf⟩ p hp;refine A3 4000 ?_;simp;refine D4 (λh=>?_) (λh=>?_)
  ·have h:=zr h;obtain⟨x,hx,hd⟩:=A8 h;have hcl:=B34 x j name;simp only[T5] at hcl;rw[hd] at hf;simp only[B9] at hf;have hi1:IntKind.i64.wrap ((i:Int)+1)=((i+1:Nat):Int):=wrap64 o_;simp[hx,T5];refine⟨h,?_⟩;refine F9 hP rfl rfl (hcl _) s_ (by simp[j1]<;>rfl) ?_;refine A3 4000 ?_;simp[j1];refine D4 (λh1=>?_) (λh1=>?_)
   ·simp[j1];rw[zj h1] at hf;rw[←hf] at hR;refine yE hR [] (by simp[j1,B9,A4 hid]) λhrn=>⟨?_,?_,?_,?_,?_,?_⟩<;>(try simp[j1,B9,A4 hid])
   ·simp[j1];rw[zf (v_ h1)] at hf;refine hp _ (i+1) ⟨h,hf⟩ o_ ?_;exact yW [] (a_ hi1 j1)
  ·have h:=zq h;simp;rw[zo o_] at hf;rw[←hf] at hR;refine yE hR [] (by simp[j1,B9,A4 hid]) λhrn=>⟨?_,?_,?_,?_,?_,?_⟩<;>(try simp[j1,B9,A4 hid])
def B4k(l:List Ty)(j:Nat)(name:List UInt8)(id:Nat)(hl8:l.length<9223372036854775807):A2 prog 133 [.sl (l.map I7),.fn 134 [.ptr j 0 0]] [(j,⟨[.str name],.str name,false,false⟩)] id (.int .i64 (B9 (λx=>x.name==name) l 0)) []:=by
 refine w133.e.1 λE hP hR hl hid=>?_;simp[w133];have hj:=hl (j,_) (za ..);simp only at hj;have j1:=lf hj;refine C1 (X:=Nat) (λi=>⟨[(0,true,.sl (l.map I7)),(1,true,.fn 134 [.ptr j 0 0]),(7,true,.int .i64 l.length),(8,true,.int .i64 i)],[(j,some (⟨[.str name],.str name,false,false⟩))],0⟩) (λi=>i<=l.length/\B9 (λx=>x.name==name) (l.drop i) i=B9 (λx=>x.name==name) l 0) (λi=>l.length - i) 0 ?_ ⟨o_,rfl⟩ ?_
 ·exact yW [] j1
 ·rintro i ⟨hi,hf⟩ p hp;refine A3 4000 ?_;simp;refine D4 (λh=>?_) (λh=>?_)
  ·have h:=zr h;obtain⟨x,hx,hd⟩:=A8 h;have hcl:=C01 x j name;simp only[I7] at hcl;rw[hd] at hf;simp only[B9] at hf;have hi1:IntKind.i64.wrap ((i:Int)+1)=((i+1:Nat):Int):=wrap64 o_;simp[hx,I7];refine⟨h,?_⟩;refine F9 hP rfl rfl (hcl _) s_ (by simp[j1]<;>rfl) ?_;refine A3 4000 ?_;simp[j1];refine D4 (λh1=>?_) (λh1=>?_)
   ·simp[j1];rw[zj h1] at hf;rw[←hf] at hR;refine yE hR [] (by simp[j1,B9,A4 hid]) λhrn=>⟨?_,?_,?_,?_,?_,?_⟩<;>(try simp[j1,B9,A4 hid])
   ·simp[j1];rw[zf (v_ h1)] at hf;refine hp _ (i+1) ⟨h,hf⟩ o_ ?_;exact yW [] (a_ hi1 j1)
  ·have h:=zq h;simp;rw[zo o_] at hf;rw[←hf] at hR;refine yE hR [] (by simp[j1,B9,A4 hid]) λhrn=>⟨?_,?_,?_,?_,?_,?_⟩<;>(try simp[j1,B9,A4 hid])
def A1P(l:List Fd)(n name:List UInt8)(id:Nat)(hl8:l.length<9223372036854775807):A2 prog 229 [.agg [.str n,.sl (l.map T5)],.str name] [] id (.int .i64 (B9 (λx=>x.name==name) l 0)) []:=by
 refine w229.e.1 λE hP hR hl hid=>?_;simp[w229];(refine yH rfl (B4j l (E.n0+1024) name _ hl8) ?_; simp);exact yP hR
def m8(l:List Ty)(name:List UInt8)(id:Nat)(hl8:l.length<9223372036854775807):A2 prog 72 [.sl (l.map I7),.str name] [] id (.int .i64 (B9 (λx=>x.name==name) l 0)) []:=by
 refine w72.e.1 λE hP hR hl hid=>?_;simp[w72];(refine yH rfl (B4k l E.n0 name _ hl8) ?_; simp);exact yP hR
def C02(x b:Bt)(j:Nat)(id:Nat):A2 prog 104 [eBt x,.ptr j 0 0] [(j,⟨[eBt b],.agg [.int .i64 0,.nils],false,false⟩)] id (.bool (x.number==b.number)) []:=by
 unfold eBt;refine w104.e.1 λE hP hR hl hid=>?_;simp[w104];have hj:=hl (j,_) (za ..);simp only at hj;have j1:=lf hj;simp[j1];exact yF hR [] (a_ j1 (A4 hid))
def C3A(x:Bt)(n:Int)(j:Nat)(id:Nat):A2 prog 49 [eBt x,.ptr j 0 0] [(j,⟨[.int .i64 n],.int .i64 n,false,false⟩)] id (.bool (x.number==n)) []:=by
 unfold eBt;refine w49.e.1 λE hP hR hl hid=>?_;simp[w49];have hj:=hl (j,_) (za ..);simp only at hj;have j1:=lf hj;simp[j1];exact yF hR [] (a_ j1 (A4 hid))
def B4l(g j:Nat)(c d:AV)(n:Int)(hc:c.pureB=true)(hg:∀(x:Bt) id,A2 prog g [eBt x,.ptr j 0 0] [(j,⟨[c],d,false,false⟩)] id (.bool (x.number==n)) [])(l:List Bt)(id:Nat)(hl8:l.length<=1000000):A2 prog 106 [.sl (l.map eBt),.fn g [.ptr j 0 0]] [(j,⟨[c],d,false,false⟩)] id (.int .i64 (B9 (λx=>x.number==n) l 0)) []:=by
 refine w106.e.1 λE hP hR hl hid=>?_;simp[w106];have hj:=hl (j,_) (za ..);simp only at hj;have j1:=lf hj;refine C1 (X:=Nat) (λi=>⟨[(0,true,.sl (l.map eBt)),(1,true,.fn g [.ptr j 0 0]),(7,true,.int .i64 l.length),(8,true,.int .i64 i)],[(j,some ⟨[c],d,false,false⟩)],0⟩) (λi=>i<=l.length/\B9 (λx=>x.number==n) (l.drop i) i=B9 (λx=>x.number==n) l 0) (λi=>l.length - i) 0 ?_ ⟨o_,rfl⟩ ?_
 ·refine yV [] (t_ j1) λhrn=>⟨?_,?_,?_,?_,?_⟩<;>(try simp[j1]);all_goals exact L2 rfl hc
 ·rintro i ⟨hi,hf⟩ p hp;refine A3 4000 ?_;simp;refine D4 (λh=>?_) (λh=>?_)
  ·have h:=zr h;obtain⟨x,hx,hd⟩:=A8 h;have hcl:=λid=>hg x id;simp only[eBt] at hcl;rw[hd] at hf;simp only[B9] at hf;have hi1:IntKind.i64.wrap ((i:Int)+1)=((i+1:Nat):Int):=wrap64 o_;simp[hx,eBt];refine⟨h,?_⟩;refine F9 hP rfl rfl (hcl _) s_ (by simp[j1]<;>rfl) ?_;refine A3 4000 ?_;simp[j1];refine D4 (λh1=>?_) (λh1=>?_)
   ·simp[j1];rw[zj h1] at hf;rw[←hf] at hR;refine yE hR [] (by simp[j1,B9,A4 hid]) λhrn=>⟨?_,?_,?_,?_,?_,?_⟩<;>(try simp[j1,B9,A4 hid]);all_goals exact L2 rfl hc
   ·simp[j1];rw[zf (v_ h1)] at hf;refine hp _ (i+1) ⟨h,hf⟩ o_ ?_;refine yV [] (by simp[hi1,j1]) λhrn=>⟨?_,?_,?_,?_,?_⟩<;>(try simp[hi1,j1]);all_goals exact L2 rfl hc
  ·have h:=zq h;simp;rw[zo o_] at hf;rw[←hf] at hR;refine yE hR [] (by simp[j1,B9,A4 hid]) λhrn=>⟨?_,?_,?_,?_,?_,?_⟩<;>(try simp[j1,B9,A4 hid]);all_goals exact L2 rfl hc
def B03(g j:Nat)(c d:AV)(n:Int)(hc:c.pureB=true)(hg:∀(x:Bt) id,A2 prog g [eBt x,.ptr j 0 0] [(j,⟨[c],d,false,false⟩)] id (.bool (x.number==n)) [])(l:List Bt)(id:Nat)(hl8:l.length<=1000000):A2 prog 48 [.sl (l.map eBt),.fn g [.ptr j 0 0]] [(j,⟨[c],d,false,false⟩)] id (.bool (l.any λx=>x.number==n)) []:=by
 have hI:=λid=>B4l g j c d n hc hg l id hl8;rw[←V2 _ l 0];refine w48.e.1 λE hP hR hl hid=>?_;simp[w48];have hj:=hl (j,_) (za ..);simp only at hj;have j1:=lf hj;(refine yC rfl (hI _) ?_; simp[j1]);refine yE hR [] (by simp[j1,A4 hid]) λhrn=>⟨?_,?_,?_,?_,?_,?_⟩<;>(try simp[j1,A4 hid]);all_goals exact L2 rfl hc
def A7H(c:UInt8):Bool:=(decide (97<=c.toNat)&&decide (c.toNat<=122))||(decide (65<=c.toNat)&&decide (c.toNat<=90))||decide (c.toNat=95)
def c6(c:UInt8):Bool:=decide (48<=c.toNat)&&decide (c.toNat<=57)
def anC(c:UInt8):Bool:=A7H c||c6 c
def B4m:List UInt8->Bool
 | []=>false
 | c::r=>A7H c&&r.all anC
def H2(s:List UInt8):Int:=if 12<s.length then 2 else if B4m s=true then 0 else 1
def A6H(c:UInt8)(id:Nat):A2 prog 232 [.int .u8 c.toNat] [] id (.bool (A7H c)) []:=by
 refine w232.e.1 λE hP hR hl hid=>?_;simp[w232];refine⟨by grind,by grind,by grind,?_⟩;exact yP hR (h1:=by simp; unfold A7H; rw[wm]; simp; omega)
def A5I(c:UInt8)(id:Nat):A2 prog 233 [.int .u8 c.toNat] [] id (.bool (c6 c)) []:=by
 refine w233.e.1 λE hP hR hl hid=>?_;simp[w233];exact yP hR (h1:=by simp; unfold c6; rw[wm]; simp; omega)
def okN:List UInt8->Bool->Bool
 | [],_=>true
 | c::r,fst=>(A7H c||(!fst&&c6 c))&&okN r false
def B7o(l:List UInt8):okN l false=l.all anC:=by
 induction l with
 | nil=>rfl
 | cons c r ih=>simp[okN,ih,anC]
def B35(s:List UInt8)(h:s≠[]):okN s true=B4m s:=by
 cases s with
 | nil=>exact (h rfl).elim
 | cons c r=>simp[okN,B4m,B7o]
def A2g(s:List UInt8)(id:Nat):A2 prog 166 [.str s] [] id (.int .i64 (H2 s)) []:=by
 refine w166.e.1 λE hP hR hl hid=>?_;simp[w166];refine D4 (λh=>?_) (λh=>?_)
 ·simp;exact yP hR (h1:=by simp; simp at h; unfold H2; rw[zj o_])
 ·simp;have h12:¬12<s.length:=by simp at h; omega
  refine C1 (X:=Nat) (λi=>⟨[(0,true,.str s),(8,true,.int .i64 s.length),(9,true,.int .i64 i)],[],0⟩) (λi=>i<=s.length/\okN (s.drop i) (decide (i=0))=okN s true) (λi=>s.length - i) 0 ?_ ⟨o_,rfl⟩ ?_
  ·exact yW [] trivial
  ·rintro i ⟨hi,hf⟩ p hp;refine A3 4000 ?_;simp;refine D4 (λh=>?_) (λh=>?_)
   ·have h:=zr h;obtain⟨x,hx,hd⟩:=A8 h;rw[hd] at hf;simp only[okN] at hf;have hi1:IntKind.i64.wrap ((i:Int)+1)=((i+1:Nat):Int):=wrap64 o_;simp[hx];refine⟨h,?_⟩;(refine yC rfl (A6H x _) ?_; simp[hx]);refine⟨λh1 h2=>⟨⟨h1,h2⟩,h⟩,?_⟩;(refine H8 hP (t_ hx) rfl (λhc=>⟨A5I x _,by revert hc; simp[hx]; try grind,t_ hx⟩) ?_; refine A3 4000 ?_; simp[hx]);refine⟨by grind,?_⟩;have hb:(A7H x||(!decide (i=0)&&c6 x))=!(!A7H x&&(((i:Int)==0)||!c6 x)):=by
     have:decide (i=0)=((i:Int)==0):=by rw[wm]; simp
     rw[this]; simp
    rw[hb] at hf;refine D4 (λh1=>?_) (λh1=>?_)
    ·simp;rw[h1] at hf;simp at hf;have hne:s≠[]:=(by rintro rfl; simp at h);exact yP hR (h1:=by simp; unfold H2; rw[zf h12,←B35 s hne,hf]; rfl)
    ·simp;rw[h1] at hf;simp at hf;refine hp _ (i+1) ⟨h,v_ hf⟩ o_ ?_;exact yW [] hi1
   ·have h:=zq h;simp;rw[zo o_] at hf;simp only[okN] at hf;refine D4 (λh=>?_) (λh=>?_)
    ·simp;exact yP hR (h1:=by simp; simp at h; subst h; rfl)
    ·simp;have hne:s≠[]:=(v_ h);exact yP hR (h1:=by simp; unfold H2; rw[zf h12,←B35 s hne,←hf]; rfl)
def tId:List UInt8:=[105,100]
def A7X:List UInt8:=[78,117,109,98,101,114]
def B68:List UInt8:=[84,101,120,116]
def C5R(l:List Fd)(n:List UInt8):Bool:=l.any λx=>x.name==n
def B1E(l:List Ty)(n:List UInt8):Bool:=l.any λx=>x.name==n
def u6(l:List Ty)(f:Fd)(ahead:List Fd):Int :=
 if H2 f.name≠0 then H2 f.name else if f.name=tId then 4 else if C5R ahead f.name=true then 6
 else if ¬(1<=f.kind/\f.kind<=4) then 7 else if (f.kind=1\/f.kind=2)/\f.of≠[] then 1
 else if ¬(f.kind=1\/f.kind=2)/\¬B1E l f.of=true then 5 else 0
def D0{α:Type}(f:Nat->α->Int):List α->Nat->Int
 | [],_=>0
 | x::l,i=>if f i x≠0 then f i x else D0 f l (i+1)
def A1i(l:List Ty)(i:Nat)(t:Ty):Int :=
 if H2 t.name≠0 then H2 t.name else if t.name=A7X\/t.name=B68 then 4 else if B1E (l.take i) t.name=true then 6
 else if t.fields=[] then 5 else if 6<t.fields.length then 2 else D0 (λk f=>u6 l f (t.fields.take k)) t.fields 0
def H3(l:List Ty):Int :=
 if l=[] then 5 else if 5<l.length then 2 else D0 (λi t=>A1i l i t) l 0
def A8L(l:List Fd)(n:List UInt8):decide (0<=B9 (λx=>x.name==n) l 0)=C5R l n:=V2 _ l 0
def A8M(l:List Ty)(n:List UInt8):decide (0<=B9 (λx=>x.name==n) l 0)=B1E l n:=V2 _ l 0
def A44(l:List Ty)(n:List UInt8):decide (B9 (λx=>x.name==n) l 0<0)=!B1E l n:=by
 rw[←A8M,wm]; simp
def A9N(l:List Ty)(f:Fd)(ahead:List Fd)(id:Nat)(hl:l.length<=1000000)(ha:ahead.length<=1000000):A2 prog 197 [.sl (l.map I7),T5 f,.sl (ahead.map T5)] [] id (.int .i64 (u6 l f ahead)) []:=by
 have hF:=λn=>A1P ahead [] n;simp only[T5];refine w197.e.1 λE hP hR hl hid=>?_;simp[w197];(refine yH rfl (A2g _ _) ?_; simp);refine D4 (λh=>?_) (λh=>?_)<;>simp
 ·exact yP hR (h1:=by simp; simp at h; unfold u6; rw[zj h])
 have h1:¬H2 f.name≠0:=by simpa using h
 refine D4 (λh=>?_) (λh=>?_)<;>simp
 ·exact yP hR (h1:=by simp; simp at h; unfold u6; rw[zf h1,zj (show f.name=tId from h)])
 have h2:¬f.name=tId:=by simpa [tId] using h
 (refine D9 hP rfl (hF _ _ o_) (by simp[A8L]) (by simp[A8L]<;>rfl) ?_; refine A3 4000 ?_; simp[A8L]);refine D4 (λh=>?_) (λh=>?_)<;>simp
 ·exact yP hR (h1:=by simp; unfold u6; rw[zf h1,zf h2,zj h])
 have h3:¬C5R ahead f.name=true:=by simpa using h
 refine D4 (λh=>?_) (λh=>?_)<;>simp
 ·exact yP hR (h1:=by simp; simp at h; unfold u6; rw[zf h1,zf h2,zf h3,zj o_])
 have h4:¬¬(1<=f.kind/\f.kind<=4):=by simp at h; omega
 refine D4 (λh=>?_) (λh=>?_)<;>simp
 ·exact yP hR (h1:=by simp; simp at h; unfold u6; rw[zf h1,zf h2,zf h3,zf h4,zj h])
 have h5:¬((f.kind=1\/f.kind=2)/\f.of≠[]):=by simpa using h
 (repeat (refine And.intro (by first|assumption|omega|(simp; omega)|(simp_all; done)) ?_));(refine H8 hP (by simp[A44]) rfl (λhc=>⟨m8 l f.of _ o_,by revert hc; simp[A44]; try grind,by simp[A44]⟩) ?_; refine A3 4000 ?_; simp[A44]);refine D4 (λh=>?_) (λh=>?_)<;>simp
 ·exact yP hR (h1:=by simp; simp at h; unfold u6; rw[zf h1,zf h2,zf h3,zf h4,zf h5,zj (v_ h)])
 have h6:¬(¬(f.kind=1\/f.kind=2)/\¬B1E l f.of=true):=by simpa using h
 exact yP hR (h1:=by simp; unfold u6; rw[zf h1,zf h2,zf h3,zf h4,zf h5,zf h6])
def B1F(l:List Ty)(i:Nat)(t:Ty)(id:Nat)(hl5:l.length<=5)(hi:l[i]?=some t):A2 prog 128 [.sl (l.map I7),.int .i64 i] [] id (.int .i64 (A1i l i t)) []:=by
 have hin:i<l.length:=(ze.1 hi).1;have hF:=m8 (l.take i) t.name;rw[yy] at hF;have hFd:=λf k id h=>A9N l f (t.fields.take k) id o_ h;simp only[T5,yy] at hFd;refine w128.e.1 λE hP hR hl hid=>?_;simp[w128,hi,I7];refine⟨hin,?_⟩;(refine yH rfl (A2g _ _) ?_; simp);refine D4 (λh=>?_) (λh=>?_)<;>simp
 ·exact yP hR (h1:=by simp; simp at h; unfold A1i; rw[zj h])
 have h1:¬H2 t.name≠0:=by simpa using h
 refine D4 (λh=>?_) (λh=>?_)<;>simp
 ·exact yP hR (h1:=by simp; simp at h; unfold A1i; rw[zf h1,zj (show t.name=A7X\/t.name=B68 from h)])
 have h2:¬(t.name=A7X\/t.name=B68):=by simpa [A7X,B68] using h
 refine⟨⟨λa _=>rfl,o_⟩,?_⟩;(refine yC rfl (hF _ m_) ?_; simp[A8M]);refine D4 (λh=>?_) (λh=>?_)<;>simp
 ·exact yP hR (h1:=by simp; unfold A1i; rw[zf h1,zf h2,zj h])
 have h3:¬B1E (l.take i) t.name=true:=by simpa using h
 refine D4 (λh=>?_) (λh=>?_)<;>simp
 ·exact yP hR (h1:=by simp; simp at h; unfold A1i; rw[zf h1,zf h2,zf h3,zj h])
 have h4:¬t.fields=[]:=by simpa using h
 refine D4 (λh=>?_) (λh=>?_)<;>simp
 ·exact yP hR (h1:=by simp; simp at h; unfold A1i; rw[zf h1,zf h2,zf h3,zf h4,zj o_])
 have h5:¬6<t.fields.length:=by simp at h; omega
 have hft:A1i l i t=D0 (λk f=>u6 l f (t.fields.take k)) t.fields 0:=by unfold A1i; rw[zf h1,zf h2,zf h3,zf h4,zf h5]
 rw[hft] at hR;refine C1 (X:=Nat) (λk=>⟨[(0,true,.sl (l.map I7)),(5,true,.ptr E.n0 0 0),(48,true,.sl (t.fields.map T5)),(49,true,.int .i64 t.fields.length),(50,true,.int .i64 k)],[(E.n0,some ⟨[.agg [.str t.name,.sl (t.fields.map T5)]],.agg [.str [],.nils],false,false⟩)],1⟩) (λk=>k<=t.fields.length/\D0 (λk f=>u6 l f (t.fields.take k)) (t.fields.drop k) k=D0 (λk f=>u6 l f (t.fields.take k)) t.fields 0) (λk=>t.fields.length - k) 0 ?_ ⟨o_,rfl⟩ ?_
 ·exact yW [(E.n0,E.n0+5120)] trivial
 ·rintro k ⟨hk,hf⟩ p hp;refine A3 4000 ?_;simp;refine D4 (λh=>?_) (λh=>?_)
  ·have h:=zr h;obtain⟨x,hx,hd⟩:=A8 h;rw[hd] at hf;simp only[D0] at hf;have hi1:IntKind.i64.wrap ((k:Int)+1)=((k+1:Nat):Int):=wrap64 o_;simp[hx,T5];refine⟨h,hk,?_⟩;(refine yH rfl (hFd x k _ m_) ?_; simp);refine D4 (λh1=>?_) (λh1=>?_)
   ·simp;rw[zj (v_ h1)] at hf;exact yP hR (h1:=by simp; exact hf)
   ·simp;rw[zf (v_ h1)] at hf;refine hp _ (k+1) ⟨h,hf⟩ o_ ?_;exact yW [(E.n0,E.n0)] hi1
  ·have h:=zq h;simp;rw[zo o_] at hf;exact yP hR (h1:=by simp; exact hf)
def A45(l:List Ty)(id:Nat):A2 prog 65 [.sl (l.map I7)] [] id (.int .i64 (H3 l)) []:=by
 refine w65.e.1 λE hP hR hl hid=>?_;simp[w65];refine D4 (λh=>?_) (λh=>?_)<;>simp
 ·exact yP hR (h1:=by simp; simp at h; unfold H3; rw[zj h])
 have h1:¬l=[]:=by simpa using h
 refine D4 (λh=>?_) (λh=>?_)<;>simp
 ·exact yP hR (h1:=by simp; simp at h; unfold H3; rw[zf h1,zj o_])
 have h2:¬5<l.length:=by simp at h; omega
 have hft:H3 l=D0 (λi t=>A1i l i t) l 0:=by unfold H3; rw[zf h1,zf h2]
 rw[hft] at hR;refine C1 (X:=Nat) (λi=>⟨[(0,true,.sl (l.map I7)),(14,true,.int .i64 l.length),(15,true,.int .i64 i)],[],0⟩) (λi=>i<=l.length/\D0 (λi t=>A1i l i t) (l.drop i) i=D0 (λi t=>A1i l i t) l 0) (λi=>l.length - i) 0 ?_ ⟨o_,rfl⟩ ?_
 ·exact yW [] trivial
 ·rintro i ⟨hi,hf⟩ p hp;refine A3 4000 ?_;simp;refine D4 (λh=>?_) (λh=>?_)
  ·have h:=zr h;obtain⟨x,hx,hd⟩:=A8 h;rw[hd] at hf;simp only[D0] at hf;have hi1:IntKind.i64.wrap ((i:Int)+1)=((i+1:Nat):Int):=wrap64 o_;simp;(refine yH rfl (B1F l i x _ o_ hx) ?_; simp);refine D4 (λh1=>?_) (λh1=>?_)
   ·simp;rw[zj (v_ h1)] at hf;exact yP hR (h1:=by simp; exact hf)
   ·simp;rw[zf (v_ h1)] at hf;refine hp _ (i+1) ⟨h,hf⟩ o_ ?_;exact yW [] hi1
  ·have h:=zq h;simp;rw[zo o_] at hf;exact yP hR (h1:=by simp; exact hf)
structure Cl where
 n:Int
 text:List UInt8
 ids:List Int
structure Tg where
 type:Int
 id:Int
 cells:List Cl
structure H7 where
 types:List Ty
 things:List Tg
def eI(n:Int):AV:=.int .i64 n
def eCl(c:Cl):AV:=.agg [.int .i64 c.n,.str c.text,.sl (c.ids.map eI)]
def W3(t:Tg):AV:=.agg [.int .i64 t.type,.int .i64 t.id,.sl (t.cells.map eCl)]
def H4(s:H7):AV:=.agg [.sl (s.types.map I7),.sl (s.things.map W3)]
theorem C4U(n:Int):eI n = .int .i64 n:=rfl
theorem B1G(c:Cl):eCl c = .agg [.int .i64 c.n,.str c.text,.sl (c.ids.map eI)]:=rfl
theorem A3Q(t:Tg):W3 t = .agg [.int .i64 t.type,.int .i64 t.id,.sl (t.cells.map eCl)]:=rfl
theorem C3B(n:Int):(eI n).pureB=true:=rfl
@[simp] theorem A1C (l:List Int):F1 (l.map eI)=true:=E4 C3B l
@[simp] theorem C5S (S:Nat->Prop) (l:List Int):E8 S (l.map eI):=A5 _ (A1C l)
@[simp] theorem C03 (R:Rn) (S:Nat->Prop) (l:List Int):N8 R S (l.map eI) (l.map eI):=B4 rfl (A1C l)
def C04(c:Cl):(eCl c).pureB=true:=by simp[eCl]
@[simp] theorem C05 (l:List Cl):F1 (l.map eCl)=true:=E4 C04 l
@[simp] theorem C6W (S:Nat->Prop) (l:List Cl):E8 S (l.map eCl):=A5 _ (C05 l)
def A5J(t:Tg):(W3 t).pureB=true:=by simp[W3]
@[simp] theorem C06 (l:List Tg):F1 (l.map W3)=true:=E4 A5J l
@[simp] theorem C6X (S:Nat->Prop) (l:List Tg):E8 S (l.map W3):=A5 _ (C06 l)
def A1Z(ta ia tb ib:Int):Int:=if ta≠tb then IntKind.i64.wrap (ta - tb) else IntKind.i64.wrap (ia - ib)
def A3R(ta ia tb ib:Int)(x y:AV)(id:Nat):A2 prog 67 [.agg [.int .i64 ta,.int .i64 ia,x],.agg [.int .i64 tb,.int .i64 ib,y]] [] id (.int .i64 (A1Z ta ia tb ib)) []:=by
 refine w67.e.1 λE hP hR hl hid=>?_;simp[w67];refine D4 (λh=>?_) (λh=>?_)<;>simp
 ·exact yP hR (h1:=by simp; simp at h; unfold A1Z; rw[zj h])
 ·exact yP hR (h1:=by simp; simp at h; unfold A1Z; rw[zf (v_ h)])
def F6(n a b:Int)(id:Nat):A2 prog 129 [.int .i64 n,.int .i64 a,.int .i64 b] [] id (.bool (decide (a<=n)&&decide (n<=b))) []:=by
 refine w129.e.1 λE hP hR hl hid=>?_;simp[w129];(repeat (refine And.intro (by first|assumption|omega|(simp; omega)|(simp_all; done)) ?_));exact yP hR
def c7(k:Int):Bool:=decide (k=3)||decide (k=4)
def A8N(k:Int)(id:Nat):A2 prog 198 [.int .i64 k] [] id (.bool (c7 k)) []:=by
 refine w198.e.1 λE hP hR hl hid=>?_;simp[w198];(repeat (refine And.intro (by first|assumption|omega|(simp; omega)|(simp_all; done)) ?_));exact yP hR (h1:=by simp; unfold c7; rw[wm]; simp)
def bs(f:Nat->Int)(i j:Nat):Nat:=if h:i<j then (if f ((i+j) / 2)<0 then bs f ((i+j) / 2+1) j else bs f i ((i+j) / 2)) else i
termination_by j - i
def B69(f:Nat->Int)(i j:Nat)(h:i<=j):i<=bs f i j/\bs f i j<=j:=by
 fun_induction bs f i j with
 | case1 i j h hf ih=>have:=ih o_; omega
 | case2 i j h hf ih=>have:=ih o_; omega
 | case3 i j h=>omega
def K6(l:List Tg)(kind id:Int)(k:Nat):Int:=match l[k]? with
 | some t=>A1Z t.type t.id kind id
 | none=>0
def C3(l:List Tg)(kind id:Int):Nat:=bs (K6 l kind id) 0 l.length
def F4(l:List Tg)(kind id:Int):Bool:=decide (C3 l kind id<l.length)&&decide (K6 l kind id (C3 l kind id)=0)
def C07{i j:Nat}(hi:i<1000000)(hj:j<1000000):IntKind.i64.wrap (IntKind.u64.wrap (IntKind.i64.wrap ((i:Int)+j)) / 2)=(((i+j) / 2:Nat):Int):=by
 have a:IntKind.i64.wrap ((i:Int)+j)=((i+j:Nat):Int):=by rw[wrap64 o_]; omega
 have b:IntKind.u64.wrap ((i+j:Nat):Int)=((i+j:Nat):Int):=IntWalk.u64_in _ o_;rw[a,b,wrap64 o_];omega
def B1H(l:List Tg)(kind tid:Int)(id:Nat)(hl:l.length<1000000):A2 prog 132 [.sl (l.map W3),.agg [.int .i64 kind,.int .i64 tid,.nils],.fn 67 []] [] id (.tup [.int .i64 (C3 l kind tid),.bool (F4 l kind tid)]) []:=by
 refine w132.e.1 λE hP hR hl hid=>?_;simp[w132];refine C1 (X:=Nat×Nat) (λq=>⟨[(0,true,.sl (l.map W3)),(2,true,.fn 67 []),(4,true,.ptr E.n0 0 0),(8,true,.int .i64 l.length),(9,true,.int .i64 q.1),(10,true,.int .i64 q.2)],[(E.n0,some ⟨[.agg [.int .i64 kind,.int .i64 tid,.nils]],.agg [.int .i64 0,.int .i64 0,.nils],false,false⟩)],1⟩) (λq=>q.1<=q.2/\q.2<=l.length/\bs (K6 l kind tid) q.1 q.2=C3 l kind tid) (λq=>q.2 - q.1) (0,l.length) ?_ ⟨s_,s_,rfl⟩ ?_
 ·exact yW [(E.n0,E.n0)] trivial
 ·rintro⟨i,j⟩ ⟨hij,hj,hf⟩ p hp;simp only at hij hj hf;refine A3 4000 ?_;simp;refine D4 (λh=>?_) (λh=>?_)
  ·have h:=zr h;have h':i<j:=o_;have hk:(i+j) / 2<l.length:=o_;obtain⟨t,ht⟩:∃t,l[(i+j) / 2]?=some t:=⟨_,zc hk⟩;have hh:=C07 (i:=i) (j:=j) o_ o_;have h64:(1:Int)<=↑IntKind.u64.bits:=d_;generalize hm:(i+j) / 2=m at hh hk ht;simp[hh,ht,A3Q t];refine⟨h64,hk,?_⟩;refine F9 hP rfl rfl (A3R t.type t.id kind tid (.sl (t.cells.map eCl)) .nils _) s_ f_ ?_;refine A3 4000 ?_;have hfo:K6 l kind tid m=A1Z t.type t.id kind tid:=(by simp only[K6,ht]);rw[bs,dif_pos h',hm,hfo] at hf;simp;refine D4 (λh1=>?_) (λh1=>?_)
   ·have hm1:IntKind.i64.wrap ((m:Int)+1)=((m+1:Nat):Int):=wrap64 o_;simp at h1;rw[zj h1] at hf;simp;refine hp _ (m+1,j) ⟨n_,hj,hf⟩ n_ ?_;exact yW [(E.n0,E.n0)] hm1
   ·simp at h1;rw[zf o_] at hf;simp;refine hp _ (i,m) ⟨n_,n_,hf⟩ n_ ?_;exact yW [(E.n0,E.n0)] trivial
  ·have h:=zq h;have he:i=C3 l kind tid:=(by rw[←hf,bs,dif_neg o_]);simp;by_cases hi:i<l.length
   ·obtain⟨t,ht⟩:∃t,l[i]?=some t:=⟨_,zc hi⟩;have hfo:K6 l kind tid i=A1Z t.type t.id kind tid:=(by simp only[K6,ht]);have hg:l[i]=t:=(by rw[zc hi] at ht; injection ht);simp[hi,hg,A3Q t];refine A1e (.int .i64 0) s_ (λ_=>?_) (λhg=>by simp at hg);refine F9 hP rfl rfl (A3R t.type t.id kind tid (.sl (t.cells.map eCl)) .nils _) s_ f_ ?_;refine A3 4000 ?_;simp;exact yP hR (h1:=by simp; rw[←he]; refine⟨rfl,?_⟩; unfold F4; rw[←he,hfo,wm]; simp[hi])
   ·have ht:l[i]?=none:=ww o_;simp[hi,ht];refine A1e (.int .i64 0) s_ (λhg=>by simp at hg) (λ_=>?_);refine A3 4000 ?_;simp;exact yP hR (h1:=by simp; rw[←he]; exact⟨rfl,by unfold F4; rw[←he]; simp[hi]⟩)
end Go.Am
