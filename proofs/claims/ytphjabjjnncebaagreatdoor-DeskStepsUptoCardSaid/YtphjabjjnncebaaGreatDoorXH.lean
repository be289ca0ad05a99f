/- Parts of the proof: an abstract machine for Go functions, and what functions of the program give back (Rf1, Rf2, Rf3, Rf4, Pl1, Bl1, Dk1, Dk2, Dk3, Dk4). No condition. -/
import Derived.Test.YtphjabjjnncebaaGreatDoorXG
import Derived.Test.YtphjabjjnncebaaGreatDoorXE
set_option maxRecDepth 100000
set_option linter.all false
set_option maxHeartbeats 1000000
namespace Go.Am
open Go Go.Proofs Go.RowKit Go.Proofs.Tryz
@[simp] theorem C7W (b:UInt8):A6E (.int .u8 b.toNat)=b:=by simp[A6E]
def A2q(a b:Ev):Bool:=a.kind==b.kind&&(a.type==b.type&&(a.id==b.id&&(a.field==b.field&&(a.n==b.n&&a.text==b.text))))
def A8V(a b:Ev):A2q a b=true↔a=b:=by
 obtain⟨k,t,i,f,n,x⟩:=a;obtain⟨k',t',i',f',n',x'⟩:=b;simp[A2q]
def A0Y{α:Type}(f:α->α->Bool):List α->List α->Bool
 | [],[]=>true
 | x::a,y::b=>f x y&&A0Y f a b
 | _,_=>false
def A8W{α:Type}{f:α->α->Bool}:∀{a b:List α},a.length≠b.length->A0Y f a b=false
 | [],[],h=>(h rfl).elim
 | [],_::_,_=>rfl
 | _::_,[],_=>rfl
 | x::a,y::b,h=>by simp only[A0Y]; rw[A8W (a:=a) (b:=b) (v_ h)]; simp
def A6P{α:Type}{f:α->α->Bool}(hf:∀x y,f x y=true↔x=y):∀{a b:List α},A0Y f a b=true↔a=b
 | [],[]=>by simp[A0Y]
 | [],_::_=>by simp[A0Y]
 | _::_,[]=>by simp[A0Y]
 | x::a,y::b=>by simp[A0Y,hf,A6P hf (a:=a) (b:=b)]
def A9g(a b:List Ev)(id:Nat)(hl:a.length<9223372036854775807):A2 prog 19 [.sl (a.map S1),.sl (b.map S1)] [] id (.bool (A0Y A2q a b)) []:=by
 refine w19.e.1 λE hP hR hl hid=>?_;simp[w19];refine D0 (λh=>?_) (λh=>?_)
 ·simp;have h':a.length≠b.length:=by simp at h; omega
  rw[A8W h'] at hR;exact yP hR
 ·simp;have h':a.length=b.length:=by simp at h; omega
  refine B9 (X:=Nat) (λi=>⟨[(0,true,.sl (a.map S1)),(1,true,.sl (b.map S1)),(5,true,.int .i64 i)],[],0⟩) (λi=>i<=a.length/\A0Y A2q (a.drop i) (b.drop i)=A0Y A2q a b) (λi=>a.length - i) 0 ?_ ⟨o_,rfl⟩ ?_
  ·exact yW [] trivial
  ·rintro i ⟨hi,hf⟩ p hp;refine A3 4000 ?_;simp;refine D0 (λh=>?_) (λh=>?_)
   ·have h:=zq h;obtain⟨x,hx,hd⟩:=A5 h;obtain⟨y,hy,hd'⟩:=A5 (l:=b) (i:=i) o_;rw[hd,hd'] at hf;simp only[A0Y] at hf;have hi1:IntKind.i64.wrap ((i:Int)+1)=((i+1:Nat):Int):=wrap64 o_;simp[hx,hy,S1];(repeat (refine And.intro (by first|assumption|omega|(simp; omega)|(simp_all; done)) ?_));simp[A0Q,A1l];refine D0 (λh2=>?_) (λh2=>?_)
    ·simp;have h2':A2q x y=false:=by
      cases hs:A2q x y with
      | false=>rfl
      | true=>rw[(A8V x y).1 hs] at h2; simp at h2
     rw[h2',tc] at hf;exact yP hR (h1:=by simp; exact hf.symm)
    ·simp;have h2':A2q x y=true:=(by rw[A2q]; simpa using h2);rw[h2',ue] at hf;refine hp _ (i+1) ⟨h,hf⟩ o_ ?_;refine yV [] s_ λhrn=>⟨?_,?_,?_,?_,?_⟩<;>(try simp[hi1])
   ·have h:=zo h;simp;rw[zp o_,zp o_] at hf;exact yP hR (h1:=by simp; exact hf.symm)
def B3U(b:Bt):(v7 b).pureB=true:=by simp[v7]
@[simp] theorem A5R (l:List Bt):F8 (l.map v7)=true:=E9 B3U l
@[simp] theorem C7X (S:Nat->Prop) (l:List Bt):F4 S (l.map v7):=A4 _ (A5R l)
end Go.Am
namespace Go.Am
open Go Go.RowKit Go.Proofs.Tryz
def B0K(c:UInt8)(l:List UInt8):J8 (c::l)=c.toNat*256 ^ l.length+J8 l:=by
 have key:∀(l:List UInt8) (n:Int),l.foldl (λn c=>256*n+(c.toNat:Int)) n=n*256 ^ l.length+J8 l:=λl=>by
  induction l with
  | nil=>intro n; simp[J8]
  | cons d l ih =>
   intro n;simp only[wc,J8,zt];rw[ih,ih (256*0+(d.toNat:Int)),qe];simp only[Int.add_mul,qf 256 n,qn,qf 256 (256 ^ l.length)];omega
 simp only[J8,wc];rw[key];simp[J8]
def B3V(n:Int):((A12 n).toNat:Int)=n % 256:=by
 unfold A12;simp[UInt8.toNat_ofNat']; omega
def C6T(k:Nat):(2:Int) ^ (8*k)=256 ^ k:=by
 rw[Int.pow_mul]; rfl
def B5M(n B:Int)(hB:0<B):n % (B*256)=n / B % 256*B+n % B:=by
 have h1:=qg n B;have h2:=qg (n / B) 256;have h3:=Int.emod_nonneg n (show B≠0 by omega);have h4:=Int.emod_lt_of_pos n hB;have h5:0<=n / B % 256:=by omega
 have h6:n / B % 256<=255:=by omega
 have h7:0<=n / B % 256*B:=Int.mul_nonneg h5 o_;have h8:n / B % 256*B<=255*B:=Int.mul_le_mul_of_nonneg_right h6 o_;have e:n=(n / B % 256*B+n % B)+(B*256)*(n / B / 256):=by
  have h9:B*(n / B)=B*(n / B % 256)+B*256*(n / B / 256):=by
   rw[qn,←Int.mul_add,h2]
  rw[qf (n / B % 256) B];omega
 have:n % (B*256)=((n / B % 256*B+n % B)+(B*256)*(n / B / 256)) % (B*256):=by rw[←e]
 rw[this,Int.add_mul_emod_self_left,Int.emod_eq_of_lt o_ o_]
def B3W(n:Int):∀k,J8 (c8 n k)=n % 256 ^ k
 | 0=>by simp[c8,J8]
 | k+1=>by
  rw[c8,B0K,B3W n k,Q1,B3V,C6T,qe,B5M _ _ (Int.pow_pos o_)]
def B3X{n:Int}{k:Nat}(h0:0<=n)(h:n<256 ^ k):J8 (c8 n k)=n:=by
 rw[B3W,Int.emod_eq_of_lt h0 h]
def B6l(n m:Int):∀k j,k<=j->c8 (n*256 ^ j+m) k=c8 m k
 | 0,_,_=>rfl
 | k+1,j,h=>by
  simp only[c8];rw[B6l n m k j o_];congr 1
  obtain⟨d,rfl⟩:∃d,j=k+1+d:=⟨j - (k+1),o_⟩;have e:n*256 ^ (k+1+d)+m=m+(n*256 ^ d*256)*256 ^ k:=by
   rw[Int.pow_add,qe];simp only[qf,qn,Int.mul_left_comm];omega
  rw[C6T,e,qa _ _ (by have:=Int.pow_pos (n:=256) (m:=k) o_; omega)];unfold A12;rw[Int.add_mul_emod_self_right]
def B3Y:∀l:List UInt8,c8 (J8 l) l.length=l
 | []=>rfl
 | c::l=>by
  have hb:=A0P l;simp only[zt,c8];rw[B0K,B6l _ _ _ _ (zx _),B3Y l,C6T];congr 1
  rw[Int.add_comm,qa _ _ o_,Int.ediv_eq_zero_of_lt hb.1 hb.2,Int.zero_add];unfold A12;have:=c.toNat_lt;rw[show ((c.toNat:Int) % 256).toNat=c.toNat by omega];simp
def A6Q{a b:List UInt8}{k:Nat}(h:a.length=k):D7 (a++b) k=a:=by subst h; unfold D7; rw[zf s_]; simp
def B0L{a b:List UInt8}{k:Nat}(h:a.length=k):A8 (a++b) k=b:=by subst h; unfold A8; rw[zf s_]; simp
def B1b{a b:List UInt8}{sh:Bool}{k:Nat}(h:a.length=k):sh1 (a++b) sh k=sh:=by subst h; unfold sh1; simp; omega
def A2r{n:Int}{k:Nat}(b:List UInt8)(h0:0<=n)(h:n<256 ^ k):J8 (D7 (c8 n k++b) k)=n:=by rw[A6Q (Q1 n k),B3X h0 h]
def A2s(n:Int)(k:Nat)(b:List UInt8):A8 (c8 n k++b) k=b:=B0L (Q1 n k)
def A2t(n:Int)(k:Nat)(b:List UInt8)(sh:Bool):sh1 (c8 n k++b) sh k=sh:=B1b (Q1 n k)
def B8Q(e:Ev)(h:W7 e=0):(1<=e.kind/\e.kind<=6)/\(e.kind=4->e.n=0)/\(e.kind≠4->e.text=[])/\(e.kind=1\/e.kind=2->e.field=0/\e.n=0):=by
 unfold W7 at h;split at h
 ·omega
 ·split at h
  ·omega
  ·rename_i h1 h2;refine⟨o_,λh3=>?_,λh3=>?_,λh3=>?_⟩
   ·apply zk; intro h4; exact h2 (.inr (.inl ⟨h3,h4⟩))
   ·apply zk; intro h4; exact h2 (.inr (.inr ⟨h3,h4⟩))
   ·constructor
    ·apply zk; intro h4; exact h2 (.inl ⟨h3,.inl h4⟩)
    ·apply zk; intro h4; exact h2 (.inl ⟨h3,.inr h4⟩)
def B8R(e:Ev)(h:Y0 e=0)(r:List UInt8):O5 (M5 e++r) false=⟨e,r,false⟩:=by
 obtain⟨h1,h2,h3,h4,h5,h6⟩:=A4H e h;obtain⟨g1,g2,g3,g4⟩:=B8Q e h6;obtain⟨k,t,i,f,n,x⟩:=e;simp only at *;unfold O5 M5;simp only[ym];rw[A2r _ o_ o_,A2s,A2t,A2r _ o_ o_,A2s,A2t,A2r _ o_ o_,A2s,A2t];rw[zf o_];by_cases hk:k=1\/k=2
 ·obtain⟨rfl,rfl⟩:=g4 hk;obtain rfl:=g3 o_;rw[zj hk,zj hk];rfl
 ·rw[zf hk,zf hk];simp only[ym];rw[A2r _ o_ o_,A2s,A2t];by_cases hk4:k=4
  ·obtain rfl:=g2 hk4;rw[zj hk4,zj hk4];simp only[ym];rw[A2r _ o_ o_,A2s,A2t];simp only[wh];rw[A6Q rfl,B0L rfl,B1b rfl]
  ·obtain rfl:=g3 hk4;rw[zf hk4,zf hk4];rw[A2r _ o_ o_,A2s,A2t];congr 2
   omega
def B6m:∀(l:List Ev) (r:List UInt8),(∀e∈l,Y0 e=0)->A2p l.length (l.flatMap M5++r) false=⟨l,r,false⟩
 | [],r,_=>rfl
 | e::l,r,h=>by
  simp only[zt,A2p,xo,ym,xm,if_false];rw[B8R e (h e s_),B6m l r λx hx=>h x (t_ hx)]
def A1o(b:Bt)(h:I7 b=0):(O2 b).length<=379:=by
 obtain⟨h1,h2,h3,h4⟩:=A13 h;have:∀l:List Ev,(∀e∈l,Y0 e=0)->(l.flatMap M5).length<=47*l.length:=λl=>by
  induction l with
  | nil=>intro _; simp
  | cons e l ih =>
   intro hl;have a:=A7B e (hl e s_);have b:=ih λx hx=>hl x (t_ hx);simp only[xo,zu,zt];omega
 have:=this b.events h4;unfold O2;simp only[zu,Q1];omega
def A4I(b:Bt)(h:I7 b=0)(s:List UInt8):A9 (C2 b++s)=⟨b,(C2 b).length,0⟩:=by
 have hl:=A1o b h;obtain⟨h1,h2,h3,h4⟩:=A13 h;have e1:J8 (D7 (C2 b++s) 2)=(O2 b).length:=by unfold C2; rw[ym,A2r _ o_ o_]
 have e2:A8 (C2 b++s) 2=O2 b++s:=by unfold C2; rw[ym,A2s]
 have e3:sh1 (C2 b++s) false 2=false:=by unfold C2; rw[ym,A2t]
 have e4:I6 (C2 b++s)=O2 b:=by unfold I6; rw[e1,e2,wh,A6Q rfl]
 have e5:A3b (C2 b++s)=false:=by unfold A3b; rw[e1,e2,e3,wh,B1b rfl]
 have e6:A3K (O2 b)=b.number:=by unfold A3K O2; rw[ym,A2r _ o_ o_]
 have e7:u5 (O2 b)=⟨b.events,[],false⟩:=by
  unfold u5 O2;rw[ym,A2s,A2t,A2r _ o_ o_,A2s,A2t,wh];have:=B6m b.events [] h4;rw[xr] at this;exact this
 unfold A9;rw[zf (by rw[e5]; simp),e4,e7,e6,zf s_,zf (t_ h),e1];simp only[C2,zu,Q1];congr 1
 omega
/-! ### What is decoded is encoded as it was -/
def N6{s:List UInt8}{sh:Bool}{k:Nat}(h:sh1 s sh k=false):sh=false/\D7 s k++A8 s k=s/\(D7 s k).length=k:=by
 simp only[sh1,wm,decide_eq_false_iff_not] at h;obtain⟨h1,h2⟩:=h;refine⟨h1,?_,?_⟩
 ·simp[D7,A8,h2]
 ·simp[D7,h2]; omega
def d0{s:List UInt8}{sh:Bool}{k:Nat}(h:sh1 s sh k=false):c8 (J8 (D7 s k)) k++A8 s k=s:=by
 obtain⟨_,h2,h3⟩:=N6 h;have:=B3Y (D7 s k);rw[h3] at this;rw[this,h2]
def B3Z(s:List UInt8)(sh:Bool)(h:(O5 s sh).sh=false):sh=false/\M5 (O5 s sh).e++(O5 s sh).s=s:=by
 unfold O5 at h ⊢;simp only at h ⊢;split at h
 ·cases h
 ·rename_i hk;rw[zf hk];split at h
  ·rename_i hk2;rw[zj hk2];simp only at h ⊢;have a3:=d0 h;have h2:=(N6 h).1;have a2:=d0 h2;have h1:=(N6 h2).1;have a1:=d0 h1;refine⟨(N6 h1).1,?_⟩;simp only[M5,zj hk2,xr,ym,a3,a2,a1]
  ·rename_i hk2;rw[zf hk2];split at h
   ·rename_i hk4;rw[zj hk4];simp only at h ⊢;obtain⟨h5,b1,b2⟩:=N6 h;have a5:=d0 h5;have h4:=(N6 h5).1;have a4:=d0 h4;have h3:=(N6 h4).1;have a3:=d0 h3;have h2:=(N6 h3).1;have a2:=d0 h2;have h1:=(N6 h2).1;have a1:=d0 h1;refine⟨(N6 h1).1,?_⟩;have hn:=A0P (D7 (A8 (A8 (A8 (A8 s 1) 1) 2) 1) 1);simp only[M5,zf hk2,zj hk4,ym,b2];rw[Int.toNat_of_nonneg hn.1,b1,a5,a4,a3,a2,a1]
   ·rename_i hk4;rw[zf hk4];simp only at h ⊢;have a5:=d0 h;have h4:=(N6 h).1;have a4:=d0 h4;have h3:=(N6 h4).1;have a3:=d0 h3;have h2:=(N6 h3).1;have a2:=d0 h2;have h1:=(N6 h2).1;have a1:=d0 h1;refine⟨(N6 h1).1,?_⟩;simp only[M5,zf hk2,zf hk4,ym,Int.sub_add_cancel,a5,a4,a3,a2,a1]
def B0M:∀(k:Nat) (s:List UInt8) (sh:Bool),(A2p k s sh).sh=false->sh=false/\(A2p k s sh).l.flatMap M5++(A2p k s sh).s=s/\(A2p k s sh).l.length=k
 | 0,s,sh,h=>⟨h,rfl,rfl⟩
 | k+1,s,sh,h=>by
  cases sh with
  | true=>simp[A2p] at h
  | false =>
   simp only[A2p,xm,if_false] at h ⊢;obtain⟨h1,h2,h3⟩:=B0M k _ _ h;obtain⟨_,g2⟩:=B3Z s false h1;refine⟨trivial,?_,t_ h3⟩;simp only[xo,ym,h2,g2]
def B8S(b:List UInt8)(h:(u5 b).sh=false)(hs:(u5 b).s=[]):O2 ⟨A3K b,(u5 b).l⟩=b:=by
 unfold u5 at h hs ⊢;obtain⟨h1,h2,h3⟩:=B0M _ _ _ h;have a2:=d0 h1;have h0:=(N6 h1).1;have a1:=d0 h0;have hn:=A0P (D7 (A8 b 2) 1);unfold O2 A3K;simp only[h3];rw[Int.toNat_of_nonneg hn.1];rw[hs,xr] at h2;rw[h2,ym,a2,a1]
def A1p(s:List UInt8)(h:(A9 s).e=0):I7 (A9 s).b=0/\(A9 s).n=(C2 (A9 s).b).length/\C2 (A9 s).b++s.drop (C2 (A9 s).b).length=s:=by
 unfold A9 at h ⊢;split at h
 ·simp at h
 ·rename_i c1;rw[zf c1];split at h
  ·simp at h
  ·rename_i c2;rw[zf c2];split at h
   ·rename_i c3; exact (c3 h).elim
   ·rename_i c3;rw[zf c3];simp only at h ⊢;have c3':I7 ⟨A3K (I6 s),(u5 (I6 s)).l⟩=0:=zk c3;have d1:(u5 (I6 s)).sh=false:=(by simpa using λh=>c2 (.inl h));have d2:(u5 (I6 s)).s=[]:=zk λh=>c2 (.inr h);have d3:A3b s=false:=(v_ c1);have hB:=B8S _ d1 d2;unfold A3b at d3;obtain⟨e1,e2,e3⟩:=N6 d3;have a1:=d0 e1;have hn:=A0P (D7 s 2);have hlen:((I6 s).length:Int)=J8 (D7 s 2):=(by unfold I6; rw[e3]; omega);have hby:C2 ⟨A3K (I6 s),(u5 (I6 s)).l⟩=c8 (J8 (D7 s 2)) 2++I6 s:=(by unfold C2; rw[hB,hlen]);have hall:c8 (J8 (D7 s 2)) 2++I6 s++A8 (A8 s 2) (J8 (D7 s 2)).toNat=s:=by
     rw[ym,I6,e2,a1]
    refine⟨c3',?_,?_⟩
    ·rw[hby]; simp; omega
    ·rw[hby];have key:∀X Y Z:List UInt8,X++Y=Z->X++Z.drop X.length=Z:=λX Y Z h=>by subst h; rw[rf]
     exact key _ _ _ hall
end Go.Am
namespace Go.Am
open Go Go.Proofs Go.RowKit Go.Proofs.Tryz
end Go.Am
namespace Go.Am
open Go Go.RowKit Go.Proofs.Tryz
def Y1{s:List UInt8}(h:(A9 s).e=0):3<=(A9 s).n.toNat/\(A9 s).n.toNat<=s.length/\(A9 s).n=((A9 s).n.toNat:Int)/\(A9 s).n.toNat<=400:=by
 obtain⟨h1,h2,h3⟩:=A1p s h;have hl:=congrArg List.length h3;have hb:=A1o _ h1;have h4:3<=(C2 (A9 s).b).length:=by simp[C2,O2]; omega
 have h5:(C2 (A9 s).b).length<=400:=by simp[C2]; omega
 simp only[zu,ya] at hl;omega
def A3c{s:List UInt8}(h:(A9 s).e=0)(x:List UInt8):A9 (s++x)=A9 s:=by
 obtain⟨h1,h2,h3⟩:=A1p s h;have e:s++x=C2 (A9 s).b++(s.drop (C2 (A9 s).b).length++x):=by
  rw[←ym,h3]
 rw[e,A4I _ h1,←h2];have:=h;cases hd:A9 s with
 | mk b n e=>rw[hd] at this; simp only at this; subst this; rfl
def A7C{s:List UInt8}{k:Nat}(h:(A9 s).e=0)(hk:(A9 s).n.toNat<=k):A9 (s.take k)=A9 s:=by
 obtain⟨h1,h2,h3⟩:=A1p s h;have hn:(A9 s).n.toNat=(C2 (A9 s).b).length:=by omega
 have e:s.take k=C2 (A9 s).b++(s.drop (C2 (A9 s).b).length).take (k - (C2 (A9 s).b).length):=by
  conv=>lhs; rw[←h3]
  rw[List.take_append,zm o_]
 rw[e,A4I _ h1,←h2];have:=h;cases hd:A9 s with
 | mk b n e=>rw[hd] at this; simp only at this; subst this; rfl
structure C9G where
 bs:List Bt
 ends:List Nat
 last:Nat
 e:Int
def C4(s:List UInt8)(a:Nat):C9G :=
 if h:(A9 (s.drop a)).e=0 then
  ⟨(A9 (s.drop a)).b::(C4 s (a+(A9 (s.drop a)).n.toNat)).bs,a::(C4 s (a+(A9 (s.drop a)).n.toNat)).ends,(C4 s (a+(A9 (s.drop a)).n.toNat)).last,(C4 s (a+(A9 (s.drop a)).n.toNat)).e⟩
 else ⟨[],[a],a,(A9 (s.drop a)).e⟩
termination_by s.length - a
decreasing_by
 all_goals
  have:=Y1 h;simp at this;omega
def Z3{s:List UInt8}{a:Nat}(h:(A9 (s.drop a)).e=0):C4 s a =
  ⟨(A9 (s.drop a)).b::(C4 s (a+(A9 (s.drop a)).n.toNat)).bs,a::(C4 s (a+(A9 (s.drop a)).n.toNat)).ends,(C4 s (a+(A9 (s.drop a)).n.toNat)).last,(C4 s (a+(A9 (s.drop a)).n.toNat)).e⟩:=by
 rw[C4,dif_pos h]
def P8{s:List UInt8}{a:Nat}(h:¬(A9 (s.drop a)).e=0):C4 s a=⟨[],[a],a,(A9 (s.drop a)).e⟩:=by
 rw[C4,dif_neg h]
def A2u{s:List UInt8}{p:Nat->Prop}(stop:∀a,¬(A9 (s.drop a)).e=0->p a)(step:∀a,(A9 (s.drop a)).e=0->a+(A9 (s.drop a)).n.toNat<=s.length->p (a+(A9 (s.drop a)).n.toNat)->p a):∀(m a:Nat),s.length - a<m->p a
 | 0,a,h=>by omega
 | m+1,a,h=>by
  by_cases hd:(A9 (s.drop a)).e=0
  ·have:=Y1 hd;simp at this;exact step a hd o_ (A2u stop step m _ o_)
  ·exact stop a hd
def M9(s:List UInt8)(a:Nat)(ha:a<=s.length):a<=(C4 s a).last/\(C4 s a).last<=s.length/\(C4 s a).ends.getLast?=some (C4 s a).last/\(∀x∈(C4 s a).ends,a<=x/\x<=(C4 s a).last)/\(C4 s a).e≠0/\(C4 s a).ends.length=(C4 s a).bs.length+1/\(∀b∈(C4 s a).bs,I7 b=0):=by
 refine A2u (s:=s) (p:=λa=>a<=s.length->a<=(C4 s a).last/\(C4 s a).last<=s.length/\(C4 s a).ends.getLast?=some (C4 s a).last/\(∀x∈(C4 s a).ends,a<=x/\x<=(C4 s a).last)/\(C4 s a).e≠0/\(C4 s a).ends.length=(C4 s a).bs.length+1/\(∀b∈(C4 s a).bs,I7 b=0)) (λa hd ha=>?_) (λa hd hle ih ha=>?_) (s.length - a+1) a o_ ha
 ·rw[P8 hd];exact⟨zx _,ha,rfl,s_,hd,rfl,s_⟩
 ·obtain⟨i1,i2,i3,i4,i5,i6,i7⟩:=ih hle;rw[Z3 hd];refine⟨n_,i2,?_,?_,i5,t_ i6,?_⟩
  ·simp only[List.getLast?_cons,i3]; rfl
  ·intro x hx;simp only[zi] at hx;rcases hx with rfl|hx
   ·exact⟨zx _,n_⟩
   ·have:=i4 x hx; exact⟨o_,this.2⟩
  ·intro b hb;simp only[zi] at hb;rcases hb with rfl|hb
   ·exact (A1p _ hd).1
   ·exact i7 b hb
def B3a(s:List UInt8)(k:Nat)(hk:k<=s.length)(a:Nat)(ha:a<=k):(C4 (s.take k) a).last=k↔k∈(C4 s a).ends:=by
 refine A2u (s:=s) (p:=λa=>a<=k->((C4 (s.take k) a).last=k↔k∈(C4 s a).ends)) (λa hd ha=>?_) (λa hd hle ih ha=>?_) (s.length - a+1) a o_ ha
 ·have hd':¬(A9 ((s.take k).drop a)).e=0:=λh=>by
   have e:(s.take k).drop a++s.drop k=s.drop a:=by
    rw[show s.drop k=(s.drop a).drop (k - a) by rw[sd]; congr 1; omega,uz];exact yu _ _
   have:=A3c h (s.drop k);rw[e] at this;rw[this] at hd;exact hd h
  rw[P8 hd,P8 hd'];simp; omega
 ·have hadv:=Y1 hd;by_cases hk2:a+(A9 (s.drop a)).n.toNat<=k
  ·have e:A9 ((s.take k).drop a)=A9 (s.drop a):=by
    rw[uz]; exact A7C hd o_
   have hd':(A9 ((s.take k).drop a)).e=0:=(by rw[e]; exact hd);rw[Z3 hd,Z3 hd',e];simp only;rw[ih hk2];simp; omega
  ·have hd':¬(A9 ((s.take k).drop a)).e=0:=λh=>by
    have e:(s.take k).drop a++s.drop k=s.drop a:=by
     rw[show s.drop k=(s.drop a).drop (k - a) by rw[sd]; congr 1; omega,uz];exact yu _ _
    have h1:=A3c h (s.drop k);rw[e] at h1;have h2:=Y1 h;rw[h1] at hk2;simp at h2;omega
   rw[Z3 hd,P8 hd'];have:=(M9 s _ hle).2.2.2.1;simp only[zi];constructor
   ·intro h; exact .inl h.symm
   ·rintro (h|h)
    ·exact h.symm
    ·have:=this k h; omega
end Go.Am
namespace Go.Am
open Go Go.Proofs Go.RowKit Go.Proofs.Tryz
def eN(l:List Nat):List AV:=l.map λ(n:Nat)=>AV.int .i64 (n:Int)
@[simp] theorem B6n (l:List Nat):F8 (eN l)=true:=E9 (λ_=>rfl) l
@[simp] theorem A8X (S:Nat->Prop) (l:List Nat):F4 S (eN l):=A4 _ (B6n l)
@[simp] theorem C9H (l:List Nat):(eN l).length=l.length:=by simp[eN]
@[simp] theorem A1I (l:List (List UInt8)):F8 (l.map AV.str)=true:=E9 (λ_=>rfl) l
@[simp] theorem C6U (S:Nat->Prop) (l:List (List UInt8)):F4 S (l.map AV.str):=A4 _ (A1I l)
@[simp] theorem C7z (R:Rn) (S:Nat->Prop) (l:List (List UInt8)):N8 R S (l.map AV.str) (l.map AV.str):=B4 rfl (A1I l)
structure CtX where
 a:Nat
 bs:List Bt
 pre:List Nat
def B5N(s:List UInt8)(id:Nat)(hs:s.length<=400):A2 prog 158 [.str s] [] id (.tup [.sl ((C4 s 0).bs.map v7),.sl (eN (C4 s 0).ends),.int .i64 (C4 s 0).e]) []:=by
 refine w158.e.1 λE hP hR hl hid=>?_;simp[w158];refine B9 (X:=CtX) (λx=>⟨[(0,true,.str s),(5,true,.bsl E.n0 0 x.bs.length),(6,true,.bsl (E.n0+1) 0 (x.pre.length+1)),(7,true,.int .i64 x.a)],
   [(E.n0,some ⟨x.bs.map v7,.agg [.int .i64 0,.nils],false,false⟩),(E.n0+1,some ⟨eN (x.pre++[x.a]),.int .i64 0,false,false⟩)],2⟩)
  (λx=>x.a<=s.length/\x.bs.length<=x.a/\x.pre.length<=x.a/\x.bs++(C4 s x.a).bs=(C4 s 0).bs/\x.pre++(C4 s x.a).ends=(C4 s 0).ends/\(C4 s x.a).e=(C4 s 0).e) (λx=>s.length - x.a) ⟨0,[],[]⟩ ?_ ⟨s_,s_,s_,rfl,rfl,rfl⟩ ?_
 ·refine D9.trans (D9.voidSlot 5 (x:=.nils) (y:=.bsl (E.n0+7168) 0 0) s_ .nils (.agg [.int .i64 0,.nils])) ?_;refine yV [(E.n0,E.n0+7168),(E.n0+1,E.n0+4096)] s_ λhrn=>⟨?_,?_,?_,?_,?_⟩<;>(try simp[eN])
 ·rintro⟨a,bs,pre⟩ ⟨ha,hb,hpl,hf1,hf2,hf3⟩ p hp;simp only at ha hb hpl hf1 hf2 hf3 hp;have hD:=B8P (s.drop a);simp only[v7] at hD;refine A3 4000 ?_;simp;refine⟨ha,?_⟩;(refine yH rfl (hD _ m_) ?_; simp);refine D0 (λh=>?_) (λh=>?_)
  ·simp;have h':¬(A9 (s.drop a)).e=0:=(v_ h);rw[P8 h'] at hf1 hf2 hf3;simp only[xr] at hf1 hf2 hf3;rw[←hf1,←hf2,←hf3] at hR;have hrn:F7 []:=s_;rw[hR];refine J0 f_ (by simp<;>exact⟨rfl,rfl⟩) [] hrn ⟨?_,?_,?_,?_,?_,?_⟩<;>(try simp);exact⟨zm s_,by rw[zm s_]; exact A8X _ _⟩
  ·simp;have h':(A9 (s.drop a)).e=0:=(v_ h);have hadv:=Y1 h';simp only[ya] at hadv;obtain⟨n,hn⟩:∃n:Nat,(A9 (s.drop a)).n=n:=⟨_,hadv.2.2.1⟩;rw[hn] at hadv;simp only[wh] at hadv;have hw:IntKind.i64.wrap ((a:Int)+n)=((a+n:Nat):Int):=wrap64 o_;rw[Z3 h',hn] at hf1 hf2 hf3;simp only[wh] at hf1 hf2 hf3;simp[hn,hw];refine⟨⟨o_,o_⟩,⟨o_,o_⟩,hp _ ⟨a+n,bs++[(A9 (s.drop a)).b],pre++[a]⟩ ⟨(by first|omega|(simp; omega)),m_,m_,v_ hf1,v_ hf2,hf3⟩ (by first|omega|(simp; omega)) ?_⟩;refine yV [(E.n0,E.n0+21506),(E.n0+1,E.n0+25602)] s_ λhrn=>⟨?_,?_,?_,?_,?_⟩<;>(try simp);exact⟨B4 (by simp[v7]) (B3 (A5R bs) s_),B4 (by simp[eN]) (B3 (B6n _) s_)⟩
def B7(l:List (List UInt8)):List UInt8:=l.getLast?.getD []
@[simp] def bxS (l:List (List UInt8)):Bx:=⟨l.map AV.str,.str [],false,false⟩
def s0{l:List (List UInt8)}(h:l≠[]):l[l.length - 1]?=some (B7 l):=by
 unfold B7;rw[rj];rw[zc (by have:=xi.2 h; omega)];rfl
def C3w(l:List (List UInt8))(syn:Int)(id:Nat)(hl8:l.length<=1000000):A2 prog 94 [.agg [.sl (l.map AV.str),.int .i64 syn]] [] id (.str (B7 l)) []:=by
 refine w94.e.1 λE hP hR hl hid=>?_;simp[w94];refine D0 (λh=>?_) (λh=>?_)
 ·simp;have h':l=[]:=by simpa using h
  subst h';exact yP hR (h1:=by simp; rfl)
 ·simp;have h':l≠[]:=by simpa using h
  have hg:=s0 h';have hp:=xi.2 h';have hw:IntKind.i64.wrap ((l.length:Int) - 1)=((l.length - 1:Nat):Int):=by rw[wrap64 o_]; omega
  simp[hw,hg];refine⟨o_,?_⟩;exact yP hR
def B0N(j:Nat)(l:List (List UInt8))(syn:Int)(id:Nat)(hl8:l.length<=1000000):A2 prog 94 [.agg [.bsl j 0 l.length,.int .i64 syn]] [(j,bxS l)] id (.str (B7 l)) []:=by
 simp only[bxS];refine w94.e.1 λE hP hR hl hid=>?_;simp[w94];have hj:=hl (j,_) (za ..);simp only at hj;have j1:=lf hj;simp[j1];refine D0 (λh=>?_) (λh=>?_)
 ·simp;have h':l=[]:=by simpa using h
  subst h';refine yE hR [] s_ λhrn=>⟨?_,?_,?_,?_,?_,?_⟩<;>(try simp[j1]);rfl
 ·simp[j1];have h':l≠[]:=by simpa using h
  have hg:=s0 h';have hp:=xi.2 h';have hw:IntKind.i64.wrap ((l.length:Int) - 1)=((l.length - 1:Nat):Int):=by rw[wrap64 o_]; omega
  simp[hw,hg];refine⟨o_,?_⟩;refine yE hR [] s_ λhrn=>⟨?_,?_,?_,?_,?_,?_⟩<;>(try simp[j1])
/-! ### Looking through a slice -/
def A3E{α:Type}(p:α->Bool):List α->Nat->Int
 | [],_=>-1
 | x::l,i=>if p x then (i:Int) else A3E p l (i+1)
def A6R{α:Type}(p:α->Bool):∀(l:List α) (i:Nat),decide (0<=A3E p l i)=l.any p
 | [],i=>by simp[A3E]
 | x::l,i=>by
  simp only[A3E,sr];by_cases hx:p x=true
  ·simp[hx]
  ·simp[hx,A6R p l (i+1)]
def C3x(s:List UInt8)(id:Nat):A2 prog 157 [.str s] [] id (.bool (decide (400<s.length))) []:=by
 refine w157.e.1 λE hP hR hl hid=>?_;simp[w157];exact yP hR (h1:=m_)
def B1c(l:List (List UInt8))(id:Nat)(hl8:l.length<=8):A2 prog 222 [.sl (l.map AV.str),.fn 157 []] [] id (.int .i64 (A3E (λs=>decide (400<s.length)) l 0)) []:=by
 refine w222.e.1 λE hP hR hl hid=>?_;simp[w222];refine B9 (X:=Nat) (λi=>⟨[(0,true,.sl (l.map AV.str)),(1,true,.fn 157 []),(7,true,.int .i64 l.length),(8,true,.int .i64 i)],[],0⟩) (λi=>i<=l.length/\A3E (λs=>decide (400<s.length)) (l.drop i) i=A3E (λs=>decide (400<s.length)) l 0) (λi=>l.length - i) 0 ?_ ⟨o_,rfl⟩ ?_
 ·exact yW [] trivial
 ·rintro i ⟨hi,hf⟩ p hp;refine A3 4000 ?_;simp;refine D0 (λh=>?_) (λh=>?_)
  ·have h:=zq h;obtain⟨x,hx,hd⟩:=A5 h;rw[hd] at hf;simp only[A3E] at hf;have hi1:IntKind.i64.wrap ((i:Int)+1)=((i+1:Nat):Int):=wrap64 o_;simp[hx];refine⟨h,?_⟩;refine E8 hP rfl rfl (C3x x _) s_ f_ ?_;refine A3 4000 ?_;simp;refine D0 (λh1=>?_) (λh1=>?_)
   ·simp;rw[zj h1] at hf;exact yP hR (h1:=by simp; exact hf)
   ·simp;rw[zf (v_ h1)] at hf;refine hp _ (i+1) ⟨h,hf⟩ o_ ?_;refine yV [] s_ λhrn=>⟨?_,?_,?_,?_,?_⟩<;>(try simp[hi1])
  ·have h:=zo h;simp;rw[zp o_] at hf;exact yP hR (h1:=by simp; exact hf)
def A7V(l:List (List UInt8))(id:Nat)(hl8:l.length<=8):A2 prog 156 [.sl (l.map AV.str),.fn 157 []] [] id (.bool (l.any λs=>decide (400<s.length))) []:=by
 refine w156.e.1 λE hP hR hl hid=>?_;simp[w156];(refine yH rfl (B1c l _ hl8) ?_; simp);exact yP hR (h1:=by simp; rw[A6R])
def C0k(l:List Nat)(v:Int)(id:Nat)(hl8:l.length<=1000000):A2 prog 224 [.sl (eN l),.int .i64 v] [] id (.int .i64 (A3E (λ(x:Nat)=>v==(x:Int)) l 0)) []:=by
 unfold eN;refine w224.e.1 λE hP hR hl hid=>?_;simp[w224];refine B9 (X:=Nat) (λi=>⟨[(0,true,.sl (l.map λ(n:Nat)=>AV.int .i64 (n:Int))),(1,true,.int .i64 v),(7,true,.int .i64 l.length),(8,true,.int .i64 i)],[],0⟩) (λi=>i<=l.length/\A3E (λ(x:Nat)=>v==(x:Int)) (l.drop i) i=A3E (λ(x:Nat)=>v==(x:Int)) l 0) (λi=>l.length - i) 0 ?_ ⟨o_,rfl⟩ ?_
 ·refine yV [] s_ λhrn=>⟨?_,?_,?_,?_,?_⟩<;>(try simp);all_goals exact A8X _ _
 ·rintro i ⟨hi,hf⟩ p hp;refine A3 4000 ?_;simp;refine D0 (λh=>?_) (λh=>?_)
  ·have h:=zq h;obtain⟨x,hx,hd⟩:=A5 h;rw[hd] at hf;simp only[A3E] at hf;have hi1:IntKind.i64.wrap ((i:Int)+1)=((i+1:Nat):Int):=wrap64 o_;simp[hx];refine⟨h,?_⟩;refine D0 (λh1=>?_) (λh1=>?_)
   ·simp;rw[zj h1] at hf;exact yP hR (h1:=by simp; exact hf)
   ·simp;rw[zf (v_ h1)] at hf;refine hp _ (i+1) ⟨h,hf⟩ o_ ?_;refine yV [] s_ λhrn=>⟨?_,?_,?_,?_,?_⟩<;>(try simp[hi1]);all_goals exact A8X _ _
  ·have h:=zo h;simp;rw[zp o_] at hf;exact yP hR (h1:=by simp; exact hf)
def B3b(l:List Nat)(v:Int)(id:Nat)(hl8:l.length<=1000000):A2 prog 159 [.sl (eN l),.int .i64 v] [] id (.bool (l.any λ(x:Nat)=>v==(x:Int))) []:=by
 refine w159.e.1 λE hP hR hl hid=>?_;simp[w159];(refine yH rfl (C0k l v _ hl8) ?_; simp);exact yP hR (h1:=by simp; rw[A6R])
structure Dk where
 seg:List (List UInt8)
 syn:Int
def eDk(d:Dk):AV:=.agg [.sl (d.seg.map AV.str),.int .i64 d.syn]
structure SgS where
 e:Int
 ends:List Nat
def Z7:List (List UInt8)->List Nat->SgS
 | [],ends=>⟨0,ends⟩
 | s::r,_=>if (C4 s 0).e≠5 then ⟨(C4 s 0).e,[]⟩ else if r≠[]/\(C4 s 0).last<s.length then ⟨4,[]⟩ else Z7 r (C4 s 0).ends
def F3(d:Dk):Int :=
 if 8<d.seg.length\/(d.seg.any λs=>decide (400<s.length))=true then 2
 else if (Z7 d.seg [0]).e≠0 then (Z7 d.seg [0]).e
 else if ((Z7 d.seg [0]).ends.any λ(x:Nat)=>d.syn==(x:Int))=true then 0 else 3
def A8Y:∀(l:List (List UInt8)) (en:List Nat),en.length<=401->(∀s∈l,s.length<=400)->(Z7 l en).ends.length<=401
 | [],en,h,_=>h
 | s::r,en,h,hl=>by
  have hf:=(M9 s 0 o_).2.2.2.2.2.1;have hb:(C4 s 0).bs.length<=s.length:=by
   have:=A2u (s:=s) (p:=λa=>a<=s.length->(C4 s a).bs.length<=s.length - a) (λa hd ha=>by rw[P8 hd]; simp) (λa hd hle ih ha=>by
    have:=ih hle;have:=Y1 hd;rw[Z3 hd]; simp only[zt]; omega) (s.length+1) 0 o_ o_
   omega
  have:=hl s s_;simp only[Z7];split
  ·simp
  ·split
   ·simp
   ·exact A8Y r _ o_ λx hx=>hl x (t_ hx)
def A5S(s:List UInt8):(C4 s 0).ends[(C4 s 0).ends.length - 1]?=some (C4 s 0).last/\1<=(C4 s 0).ends.length/\(C4 s 0).ends.length<=s.length+1:=by
 have hf:=M9 s 0 o_;have h1:=hf.2.2.1;rw[rj] at h1;have hb:(C4 s 0).bs.length<=s.length:=by
  have:=A2u (s:=s) (p:=λa=>a<=s.length->(C4 s a).bs.length<=s.length - a) (λa hd ha=>by rw[P8 hd]; simp) (λa hd hle ih ha=>by
   have:=ih hle;have:=Y1 hd;rw[Z3 hd]; simp only[zt]; omega) (s.length+1) 0 o_ o_
  omega
 exact⟨h1,o_,o_⟩
def A6S(d:Dk)(id:Nat):A2 prog 91 [eDk d] [] id (.int .i64 (F3 d)) []:=by
 unfold eDk;refine w91.e.1 λE hP hR hl hid=>?_;simp[w91];(refine H5 hP s_ rfl (λhc=>⟨A7V d.seg _ (by revert hc; simp; omega),by revert hc; simp; try grind,s_⟩) ?_; refine A3 4000 ?_; simp);refine D0 (λh=>?_) (λh=>?_)
 ·simp;have h':8<d.seg.length\/(d.seg.any λs=>decide (400<s.length))=true:=by
   simp at h ⊢; rcases h with h|h
   ·exact .inl o_
   ·exact .inr h
  have hv:F3 d=2:=by unfold F3; rw[zj h']
  rw[hv] at hR;exact yP hR
 ·have h':¬(8<d.seg.length\/(d.seg.any λs=>decide (400<s.length))=true):=by
   simp at h ⊢; exact⟨o_,h.2⟩
  have h8:d.seg.length<=8:=by omega
  have hss:∀s∈d.seg,s.length<=400:=λs hs=>by
   simp at h'; exact h'.2 s hs
  have hv:F3 d=if (Z7 d.seg [0]).e≠0 then (Z7 d.seg [0]).e else if ((Z7 d.seg [0]).ends.any λ(x:Nat)=>d.syn==(x:Int))=true then 0 else 3:=by unfold F3; rw[zf h']
  rw[hv] at hR;have hen:=A8Y d.seg [0] s_ hss;simp;refine B9 (X:=Nat×List Nat) (λx=>⟨[(1,true,.ptr E.n0 0 0),(3,true,.sl (eN x.2)),(20,true,.sl (d.seg.map AV.str)),(21,true,.int .i64 d.seg.length),(22,true,.int .i64 x.1)],[(E.n0,some ⟨[.agg [.sl (d.seg.map AV.str),.int .i64 d.syn]],.agg [.nils,.int .i64 0],false,false⟩)],1⟩)
   (λx=>x.1<=d.seg.length/\Z7 (d.seg.drop x.1) x.2=Z7 d.seg [0]) (λx=>d.seg.length - x.1) (0,[0]) ?_ ⟨s_,rfl⟩ ?_
  ·refine D9.trans (D9.frz 3 (x:=.bsl (E.n0+11264) 0 1) (x':=.sl [.int .i64 0]) (fz:=[(E.n0+11264,⟨[.int .i64 0],.int .i64 0,false,false⟩)]) s_ s_ s_ s_) ?_;refine yV [(E.n0,E.n0)] s_ λhrn=>⟨?_,?_,?_,?_,?_⟩<;>(try simp[eN]);exact A4 _ rfl
  ·rintro⟨i,ends⟩ ⟨hi,hf⟩ p hp;simp only at hi hf hp;refine A3 4000 ?_;simp;refine D0 (λh=>?_) (λh=>?_)
   ·have h:=zq h;obtain⟨x,hx,hd⟩:=A5 h;rw[hd] at hf;simp only[Z7] at hf;have hi1:IntKind.i64.wrap ((i:Int)+1)=((i+1:Nat):Int):=wrap64 o_;have hx4:=hss x (zg hx);obtain⟨g1,g2,g3⟩:=A5S x;simp[hx];refine⟨h,?_⟩;(refine yH rfl (B5N x _ hx4) ?_; simp);refine D0 (λh1=>?_) (λh1=>?_)
    ·simp;have h1':(C4 x 0).e≠5:=(v_ h1);rw[zj h1'] at hf;rw[←hf,zj (M9 x 0 o_).2.2.2.2.1] at hR;exact yP hR
    ·simp;have h1':¬(C4 x 0).e≠5:=(v_ h1);rw[zf h1'] at hf;have hwl:IntKind.i64.wrap ((d.seg.length:Int) - 1)=(d.seg.length:Int) - 1:=wrap64 o_;have hwe:IntKind.i64.wrap (((C4 x 0).ends.length:Int) - 1)=(((C4 x 0).ends.length - 1:Nat):Int):=(by rw[wrap64 o_]; omega);have hel:(eN (C4 x 0).ends)[(C4 x 0).ends.length - 1]?=some (.int .i64 ((C4 x 0).last:Int)):=(by simp[eN,g1]);simp[hwl,hwe,hel];refine⟨λhh=>⟨hh,o_⟩,?_⟩;have hr:d.seg.drop (i+1)≠[]↔(i:Int)<(d.seg.length:Int) - 1:=m_;refine D0 (λh2=>?_) (λh2=>?_)
     ·simp;have h2':d.seg.drop (i+1)≠[]/\(C4 x 0).last<x.length:=by
       rw[hr]; simpa using h2
      rw[zj h2'] at hf;rw[←hf] at hR;rw[zj s_] at hR;exact yP hR
     ·simp;have h2':¬(d.seg.drop (i+1)≠[]/\(C4 x 0).last<x.length):=by
       rw[hr]; simpa using h2
      rw[zf h2'] at hf;refine hp _ (i+1,(C4 x 0).ends) ⟨h,hf⟩ (by simp only[]; omega) ?_;refine yV [(E.n0,E.n0)] s_ λhrn=>⟨?_,?_,?_,?_,?_⟩<;>(try simp[hi1])
   ·have h:=zo h;simp;rw[zp o_] at hf;simp only[Z7] at hf;rw[←hf] at hR hen;simp only[ne_eq,not_true_eq_false,if_false] at hR;(refine yH rfl (B3b ends d.syn _ (by simp only at hen; omega)) ?_; simp);refine D0 (λh1=>?_) (λh1=>?_)
    ·simp;have h1':¬(ends.any λ(x:Nat)=>d.syn==(x:Int))=true:=(v_ h1);rw[zf h1'] at hR;exact yP hR
    ·simp;have h1':(ends.any λ(x:Nat)=>d.syn==(x:Int))=true:=(v_ h1);rw[zj h1'] at hR;exact yP hR
/-! ### The keeper -/
@[simp] def bxK (j n:Nat) (syn:Int):Bx:=⟨[.agg [.bsl j 0 n,.int .i64 syn]],.agg [.nils,.int .i64 0],false,false⟩
def C0l(l:List (List UInt8))(id:Nat)(hl8:l.length<=1000000):A2 prog 160 [.sl (l.map AV.str)] [] id (.bsl id 0 l.length) [(id,some (bxS l))]:=by
 simp only[bxS];refine A4p w160.hf w160.hc w160.hn w160.hr (by simp[ntmps160]) λE hP hR hl hid=>?_;refine A3 9 ?_;simp[w160];refine C0W (s:=0) (d:=3) (e:=4) (xs:=l.map AV.str) s_ d_ (λhx=>?_) ?_
 ·refine A3 10 ?_;simp;have hx:l=[]:=by simpa using hx
  subst hx;refine A6J (D9.voidSlot 2 (x:=.nils) (y:=.bsl (E.n0+4096) 0 0) s_ .nils (.str [])) ?_;refine A3 4000 ?_;simp;refine yE hR [(id,E.n0+4096)] s_ λhrn=>⟨?_,?_,?_,?_,?_,?_⟩<;>(try simp[I5 hid])
 ·refine A3 4000 ?_;simp;refine⟨⟨o_,o_⟩,?_⟩;refine yE hR [(id,E.n0+5120)] s_ λhrn=>⟨?_,?_,?_,?_,?_,?_⟩<;>(try simp[I5 hid])
def B5O(l:List (List UInt8))(syn:Int)(id:Nat)(hl8:l.length<=1000000):A2 prog 92 [.agg [.sl (l.map AV.str),.int .i64 syn]] [] id (.ptr id 0 0) [(id,some (bxK (id+1) l.length syn)),(id+1,some (bxS l))]:=by
 simp only[bxK,bxS];refine w92.e.1 λE hP hR hl hid=>?_;simp[w92];(refine yH rfl (C0l l _ hl8) ?_; simp);have hrn:F7 [(id,E.n0+9216),(id+1,E.n0+4096)]:=by simp
 rw[hR];refine F5 f_ [(id,E.n0+9216),(id+1,E.n0+4096)] hrn ⟨?_,?_,?_,?_,?_,?_⟩<;>(try simp[I5 hid,A3Z hid])
def B6o(k j:Nat)(l:List (List UInt8))(syn:Int)(id:Nat)(hl8:l.length<=8)(h4:(B7 l).length<=400)(hkj:k≠j):A2 prog 107 [.ptr k 0 0] [(k,bxK j l.length syn),(j,bxS l)] id (.int .i64 ((C4 (B7 l) 0).last:Int)) []:=by
 simp only[bxK,bxS];refine w107.e.1 λE hP hR hl hid=>?_;simp[w107];have hk:=hl (k,_) (za ..);simp only at hk;have k1:=lf hk;have hj:=hl (j,_) (zb _ (za ..));simp only at hj;have j1:=lf hj;have hkj':=hkj.symm;(refine yC rfl (B0N j l syn _ o_) ?_; simp[hkj']);(refine yC rfl (B5N (B7 l) _ h4) ?_; simp);obtain⟨g1,g2,g3⟩:=A5S (B7 l);have hwe:IntKind.i64.wrap (((C4 (B7 l) 0).ends.length:Int) - 1)=(((C4 (B7 l) 0).ends.length - 1:Nat):Int):=by rw[wrap64 o_]; omega
 have hel:(eN (C4 (B7 l) 0).ends)[(C4 (B7 l) 0).ends.length - 1]?=some (.int .i64 ((C4 (B7 l) 0).last:Int)):=by simp[eN,g1]
 simp[hwe,hel];refine⟨o_,?_⟩;refine yE hR [] s_ λhrn=>⟨?_,?_,?_,?_,?_,?_⟩<;>(try simp[k1,j1,hkj,hkj'])
def B6p(k j:Nat)(l:List (List UInt8))(syn:Int)(id:Nat)(hl8:l.length<=8)(h4:(B7 l).length<=400)(hkj:k≠j):A2 prog 152 [.ptr k 0 0] [(k,bxK j l.length syn),(j,bxS l)] id (.bool (decide ((C4 (B7 l) 0).last<(B7 l).length))) []:=by
 have he:=B6o k j l syn;simp only[bxK,bxS] at he ⊢;refine w152.e.1 λE hP hR hl hid=>?_;simp[w152];have hk:=hl (k,_) (za ..);simp only at hk;have k1:=lf hk;have hj:=hl (j,_) (zb _ (za ..));simp only at hj;have j1:=lf hj;have hkj':=hkj.symm;(refine yC rfl (he _ hl8 h4 hkj) ?_; simp[hkj']);(refine yC rfl (B0N j l syn _ o_) ?_; simp[hkj']);refine yE hR [] s_ λhrn=>⟨?_,?_,?_,?_,?_,?_⟩<;>(try simp[k1,j1,hkj,hkj'])
def A1h(l:List (List UInt8))(s:List UInt8):List (List UInt8):=l.set (l.length - 1) s
def A4b(l:List (List UInt8))(n:Nat):List (List UInt8):=A1h l ((B7 l).take n)
def C3y(k j:Nat)(l:List (List UInt8))(syn:Int)(n:Nat)(id:Nat)(hl8:l.length<=8)(hn:n<=(B7 l).length)(h4:(B7 l).length<=400)(hkj:k≠j):A2 prog 93 [.ptr k 0 0,.int .i64 n] [(k,bxK j l.length syn),(j,bxS l)] id (.tup []) [(j,some (bxS (A4b l n)))]:=by
 simp only[bxK,bxS];refine w93.e.1 λE hP hR hl hid=>?_;simp[w93];have hk:=hl (k,_) (za ..);simp only at hk;have k1:=lf hk;have hj:=hl (j,_) (zb _ (za ..));simp only at hj;have j1:=lf hj;have hkj':=hkj.symm;simp[hkj'];have hw:IntKind.i64.wrap ((l.length:Int) - 1)=(l.length:Int) - 1:=wrap64 o_;refine D0 (λh=>?_) (λh=>?_)
 ·have h':l≠[]:=by
   intro h0;have h:=zq h;rw[hw,h0] at h;simp at h
  have hg:=s0 h';have hp:=xi.2 h';have hw2:IntKind.i64.wrap ((l.length:Int) - 1)=((l.length - 1:Nat):Int):=by rw[hw]; omega
  simp[hkj',hw2,hg];refine⟨o_,hn,o_,?_⟩;refine yE hR [] s_ λhrn=>⟨?_,?_,?_,?_,?_,?_⟩<;>(try simp[k1,j1,hkj,hkj']);all_goals exact B4 (by simp[A4b,A1h,sj]) (by rw[←sj]; exact A1I _)
 ·have h:=zo h;rw[hw] at h;have h':l=[]:=wq o_;subst h';have hneg0:IntKind.i64.wrap (-1) = -1:=wrap64 o_;simp[hneg0];have hneg:IntKind.i64.wrap (-1) = -1:=wrap64 o_;refine yE hR [] s_ λhrn=>⟨?_,?_,?_,?_,?_,?_⟩<;>(try simp[k1,j1,hkj,hkj',A4b,A1h])
def C3z(k j:Nat)(l:List (List UInt8))(syn:Int)(s:List UInt8)(id:Nat)(hl8:l.length<=8)(hne:l≠[])(hs:(B7 l).length+s.length<=400)(hkj:k≠j):A2 prog 153 [.ptr k 0 0,.str s] [(k,bxK j l.length syn),(j,bxS l)] id (.bool true) [(j,some (bxS (A1h l (B7 l++s))))]:=by
 simp only[bxK,bxS];refine w153.e.1 λE hP hR hl hid=>?_;simp[w153];have hk:=hl (k,_) (za ..);simp only at hk;have k1:=lf hk;have hj:=hl (j,_) (zb _ (za ..));simp only at hj;have j1:=lf hj;have hkj':=hkj.symm;have hg:=s0 hne;have hp:=xi.2 hne;have hw2:IntKind.i64.wrap ((l.length:Int) - 1)=((l.length - 1:Nat):Int):=by rw[wrap64 o_]; omega
 have hw3:IntKind.i64.wrap (((B7 l).length:Int)+s.length)=(B7 l).length+s.length:=wrap64 o_;simp[hkj',hw2,hg,hw3,hp];refine⟨o_,?_⟩;refine A7 m_ ?_;simp[hkj',hw2,hg];(repeat (refine And.intro (by first|assumption|omega|(simp; omega)|(simp_all; done)) ?_));refine yE hR [] s_ λhrn=>⟨?_,?_,?_,?_,?_,?_⟩<;>(try simp[k1,j1,hkj,hkj']);all_goals exact B4 (by simp[A1h,sj]) (by rw[←sj]; exact A1I _)
def C40(k j:Nat)(l:List (List UInt8))(syn:Int)(s:List UInt8)(id:Nat)(hl8:l.length=8)(hs:¬(B7 l).length+s.length<=400)(h4:(B7 l).length<=400)(hs4:s.length<=1000)(hkj:k≠j):A2 prog 153 [.ptr k 0 0,.str s] [(k,bxK j l.length syn),(j,bxS l)] id (.bool false) []:=by
 simp only[bxK,bxS];refine w153.e.1 λE hP hR hl hid=>?_;simp[w153];have hk:=hl (k,_) (za ..);simp only at hk;have k1:=lf hk;have hj:=hl (j,_) (zb _ (za ..));simp only at hj;have j1:=lf hj;have hkj':=hkj.symm;have hne:l≠[]:=by intro h; subst h; simp at hl8
 have hg:=s0 hne;have hp:=xi.2 hne;have hw2:IntKind.i64.wrap ((l.length:Int) - 1)=((l.length - 1:Nat):Int):=by rw[wrap64 o_]; omega
 have hw3:IntKind.i64.wrap (((B7 l).length:Int)+s.length)=(B7 l).length+s.length:=wrap64 o_;simp[hkj',hw2,hg,hw3,hp];refine⟨o_,?_⟩;refine A0 m_ ?_;simp;refine A7 m_ ?_;simp;refine yE hR [] s_ λhrn=>⟨?_,?_,?_,?_,?_,?_⟩<;>(try simp[k1,j1,hkj,hkj'])
def C41(k j:Nat)(l:List (List UInt8))(syn:Int)(s:List UInt8)(id:Nat)(hl8:l.length<8)(hs:l=[]\/¬(B7 l).length+s.length<=400)(h4:(B7 l).length<=400)(hs4:s.length<=1000)(hkj:k≠j):A2 prog 153 [.ptr k 0 0,.str s] [(k,bxK j l.length syn),(j,bxS l)] id (.bool true) [(k,some (bxK id (l++[s]).length 0)),(j,none),(id,some (bxS (l++[s])))]:=by
 simp only[bxK,bxS];refine w153.e.1 λE hP hR hl hid=>?_;simp[w153];have hk:=hl (k,_) (za ..);simp only at hk;have k1:=lf hk;have hj:=hl (j,_) (zb _ (za ..));simp only at hj;have j1:=lf hj;have hkj':=hkj.symm;by_cases hne:l=[]
 ·subst hne;simp[k1,j1,hkj,hkj'];refine yE hR [(id,E.n0+38912)] s_ λhrn=>⟨?_,?_,?_,?_,?_,?_⟩<;>(try simp[A76 hk.2,A3U hk.2,A76 hj.2,A3U hj.2,k1,j1,hkj,hkj',I5 hid])
 ·have hs:=hs.resolve_left hne;have hg:=s0 hne;have hp:=xi.2 hne;have hw2:IntKind.i64.wrap ((l.length:Int) - 1)=((l.length - 1:Nat):Int):=by rw[wrap64 o_]; omega
  have hw3:IntKind.i64.wrap (((B7 l).length:Int)+s.length)=(B7 l).length+s.length:=wrap64 o_;simp[hkj',hw2,hg,hw3,hp];refine⟨o_,?_⟩;refine A0 m_ ?_;simp;refine A0 m_ ?_;simp[k1,j1,hkj,hkj'];(repeat (refine And.intro (by first|assumption|omega|(simp; omega)|(simp_all; done)) ?_));refine yE hR [(id,E.n0+38912)] s_ λhrn=>⟨?_,?_,?_,?_,?_,?_⟩<;>(try simp[A76 hk.2,A3U hk.2,A76 hj.2,A3U hj.2,k1,j1,hkj,hkj',I5 hid]);all_goals exact B4 rfl (B3 (A1I l) rfl)
end Go.Am
