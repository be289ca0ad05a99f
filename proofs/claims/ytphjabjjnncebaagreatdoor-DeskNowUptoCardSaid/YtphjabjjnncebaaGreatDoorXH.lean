/- Parts of the proof: an abstract machine for Go functions, and what functions of the program give back (Rf1, Rf2, Rf3, Rf4, Pl1, Bl1, Dk1, Dk2, Dk3, Dk4). No condition. -/
import Derived.Test.YtphjabjjnncebaaGreatDoorXG
import Derived.Test.YtphjabjjnncebaaGreatDoorXE
set_option maxRecDepth 100000
set_option linter.all false
set_option maxHeartbeats 1000000
namespace Go.Am
open Go Go.Proofs Go.RowKit Go.Proofs.Tryz
@[simp] theorem C6Q (b:UInt8):A62 (.int .u8 b.toNat)=b:=by simp[A62]
def A2E{α:Type}(f:α->α->Bool):List α->List α->Bool
 | [],[]=>true
 | x::a,y::b=>f x y&&A2E f a b
 | _,_=>false
def B2v{α:Type}{f:α->α->Bool}:∀{a b:List α},a.length≠b.length->A2E f a b=false
 | [],[],h=>(h rfl).elim
 | [],_::_,_=>rfl
 | _::_,[],_=>rfl
 | x::a,y::b,h=>by simp only[A2E]; rw[B2v (a:=a) (b:=b) (v_ h)]; simp
def B00{α:Type}{f:α->α->Bool}(hf:∀x y,f x y=true↔x=y):∀{a b:List α},A2E f a b=true↔a=b
 | [],[]=>by simp[A2E]
 | [],_::_=>by simp[A2E]
 | _::_,[]=>by simp[A2E]
 | x::a,y::b=>by simp[A2E,hf,B00 hf (a:=a) (b:=b)]
def B2w(b:Bt):(eBt b).pureB=true:=by simp[eBt]
@[simp] theorem A5F (l:List Bt):F1 (l.map eBt)=true:=E4 B2w l
@[simp] theorem C6R (S:Nat->Prop) (l:List Bt):E8 S (l.map eBt):=A5 _ (A5F l)
end Go.Am
namespace Go.Am
open Go Go.RowKit Go.Proofs.Tryz
def B7j(c:UInt8)(l:List UInt8):J9 (c::l)=c.toNat*256 ^ l.length+J9 l:=by
 have key:∀(l:List UInt8) (n:Int),l.foldl (λn c=>256*n+(c.toNat:Int)) n=n*256 ^ l.length+J9 l:=λl=>by
  induction l with
  | nil=>intro n; simp[J9]
  | cons d l ih =>
   intro n;simp only[wk,J9,zt];rw[ih,ih (256*0+(d.toNat:Int)),qr];simp only[Int.add_mul,qt 256 n,Int.mul_assoc,qt 256 (256 ^ l.length)];omega
 simp only[J9,wk];rw[key];simp[J9]
def C6t(k:Nat):(2:Int) ^ (8*k)=256 ^ k:=by
 rw[Int.pow_mul]; rfl
def B64(n m:Int):∀k j,k<=j->t6 (n*256 ^ j+m) k=t6 m k
 | 0,_,_=>rfl
 | k+1,j,h=>by
  simp only[t6];rw[B64 n m k j o_];congr 1
  obtain⟨d,rfl⟩:∃d,j=k+1+d:=⟨j - (k+1),o_⟩;have e:n*256 ^ (k+1+d)+m=m+(n*256 ^ d*256)*256 ^ k:=by
   rw[Int.pow_add,qr];simp only[qt,Int.mul_assoc,Int.mul_left_comm];omega
  rw[C6t,e,qb _ _ (by have:=Int.pow_pos (n:=256) (m:=k) o_; omega)];unfold A2e;rw[Int.add_mul_emod_self_right]
def B2x:∀l:List UInt8,t6 (J9 l) l.length=l
 | []=>rfl
 | c::l=>by
  have hb:=A0N l;simp only[zt,t6];rw[B7j,B64 _ _ _ _ (zy _),B2x l,C6t];congr 1
  rw[Int.add_comm,qb _ _ o_,Int.ediv_eq_zero_of_lt hb.1 hb.2,Int.zero_add];unfold A2e;have:=c.toNat_lt;rw[show ((c.toNat:Int) % 256).toNat=c.toNat by omega];simp
def A6x(b:Bt)(h:J0 b=0):(Y7 b).length<=379:=by
 obtain⟨h1,h2,h3,h4⟩:=A2f h;have:∀l:List Ev,(∀e∈l,o6 e=0)->(l.flatMap P1).length<=47*l.length:=λl=>by
  induction l with
  | nil=>intro _; simp
  | cons e l ih =>
   intro hl;have a:=A6w e (hl e s_);have b:=ih λx hx=>hl x (t_ hx);simp only[xx,zx,zt];omega
 have:=this b.events h4;unfold Y7;simp only[zx,A08];omega
/-! ### What is decoded is encoded as it was -/
def N5{s:List UInt8}{sh:Bool}{k:Nat}(h:sh1 s sh k=false):sh=false/\D8 s k++A9 s k=s/\(D8 s k).length=k:=by
 simp only[sh1,wq,decide_eq_false_iff_not] at h;obtain⟨h1,h2⟩:=h;refine⟨h1,?_,?_⟩
 ·simp[D8,A9,h2]
 ·simp[D8,h2]; omega
def Z9{s:List UInt8}{sh:Bool}{k:Nat}(h:sh1 s sh k=false):t6 (J9 (D8 s k)) k++A9 s k=s:=by
 obtain⟨_,h2,h3⟩:=N5 h;have:=B2x (D8 s k);rw[h3] at this;rw[this,h2]
def B2y(s:List UInt8)(sh:Bool)(h:(P7 s sh).sh=false):sh=false/\P1 (P7 s sh).e++(P7 s sh).s=s:=by
 unfold P7 at h ⊢;simp only at h ⊢;split at h
 ·cases h
 ·rename_i hk;rw[zf hk];split at h
  ·rename_i hk2;rw[zj hk2];simp only at h ⊢;have a3:=Z9 h;have h2:=(N5 h).1;have a2:=Z9 h2;have h1:=(N5 h2).1;have a1:=Z9 h1;refine⟨(N5 h1).1,?_⟩;simp only[P1,zj hk2,wg,xo,a3,a2,a1]
  ·rename_i hk2;rw[zf hk2];split at h
   ·rename_i hk4;rw[zj hk4];simp only at h ⊢;obtain⟨h5,b1,b2⟩:=N5 h;have a5:=Z9 h5;have h4:=(N5 h5).1;have a4:=Z9 h4;have h3:=(N5 h4).1;have a3:=Z9 h3;have h2:=(N5 h3).1;have a2:=Z9 h2;have h1:=(N5 h2).1;have a1:=Z9 h1;refine⟨(N5 h1).1,?_⟩;have hn:=A0N (D8 (A9 (A9 (A9 (A9 s 1) 1) 2) 1) 1);simp only[P1,zf hk2,zj hk4,xo,b2];rw[Int.toNat_of_nonneg hn.1,b1,a5,a4,a3,a2,a1]
   ·rename_i hk4;rw[zf hk4];simp only at h ⊢;have a5:=Z9 h;have h4:=(N5 h).1;have a4:=Z9 h4;have h3:=(N5 h4).1;have a3:=Z9 h3;have h2:=(N5 h3).1;have a2:=Z9 h2;have h1:=(N5 h2).1;have a1:=Z9 h1;refine⟨(N5 h1).1,?_⟩;simp only[P1,zf hk2,zf hk4,xo,Int.sub_add_cancel,a5,a4,a3,a2,a1]
def B01:∀(k:Nat) (s:List UInt8) (sh:Bool),(A3N k s sh).sh=false->sh=false/\(A3N k s sh).l.flatMap P1++(A3N k s sh).s=s/\(A3N k s sh).l.length=k
 | 0,s,sh,h=>⟨h,rfl,rfl⟩
 | k+1,s,sh,h=>by
  cases sh with
  | true=>simp[A3N] at h
  | false =>
   simp only[A3N,xr,if_false] at h ⊢;obtain⟨h1,h2,h3⟩:=B01 k _ _ h;obtain⟨_,g2⟩:=B2y s false h1;refine⟨trivial,?_,t_ h3⟩;simp only[xx,xo,h2,g2]
def B7k(b:List UInt8)(h:(z6 b).sh=false)(hs:(z6 b).s=[]):Y7 ⟨A3O b,(z6 b).l⟩=b:=by
 unfold z6 at h hs ⊢;obtain⟨h1,h2,h3⟩:=B01 _ _ _ h;have a2:=Z9 h1;have h0:=(N5 h1).1;have a1:=Z9 h0;have hn:=A0N (D8 (A9 b 2) 1);unfold Y7 A3O;simp only[h3];rw[Int.toNat_of_nonneg hn.1];rw[hs,wg] at h2;rw[h2,xo,a2,a1]
def A6y(s:List UInt8)(h:(C9 s).e=0):J0 (C9 s).b=0/\(C9 s).n=(O2 (C9 s).b).length/\O2 (C9 s).b++s.drop (O2 (C9 s).b).length=s:=by
 unfold C9 at h ⊢;split at h
 ·simp at h
 ·rename_i c1;rw[zf c1];split at h
  ·simp at h
  ·rename_i c2;rw[zf c2];split at h
   ·rename_i c3; exact (c3 h).elim
   ·rename_i c3;rw[zf c3];simp only at h ⊢;have c3':J0 ⟨A3O (I2 s),(z6 (I2 s)).l⟩=0:=zl c3;have d1:(z6 (I2 s)).sh=false:=(by simpa using λh=>c2 (.inl h));have d2:(z6 (I2 s)).s=[]:=zl λh=>c2 (.inr h);have d3:A6E s=false:=(v_ c1);have hB:=B7k _ d1 d2;unfold A6E at d3;obtain⟨e1,e2,e3⟩:=N5 d3;have a1:=Z9 e1;have hn:=A0N (D8 s 2);have hlen:((I2 s).length:Int)=J9 (D8 s 2):=(by unfold I2; rw[e3]; omega);have hby:O2 ⟨A3O (I2 s),(z6 (I2 s)).l⟩=t6 (J9 (D8 s 2)) 2++I2 s:=(by unfold O2; rw[hB,hlen]);have hall:t6 (J9 (D8 s 2)) 2++I2 s++A9 (A9 s 2) (J9 (D8 s 2)).toNat=s:=by
     rw[xo,I2,e2,a1]
    refine⟨c3',?_,?_⟩
    ·rw[hby]; simp; omega
    ·rw[hby];have key:∀X Y Z:List UInt8,X++Y=Z->X++Z.drop X.length=Z:=λX Y Z h=>by subst h; rw[qj]
     exact key _ _ _ hall
end Go.Am
namespace Go.Am
open Go Go.Proofs Go.RowKit Go.Proofs.Tryz
end Go.Am
namespace Go.Am
open Go Go.RowKit Go.Proofs.Tryz
def A1N{s:List UInt8}(h:(C9 s).e=0):3<=(C9 s).n.toNat/\(C9 s).n.toNat<=s.length/\(C9 s).n=((C9 s).n.toNat:Int)/\(C9 s).n.toNat<=400:=by
 obtain⟨h1,h2,h3⟩:=A6y s h;have hl:=congrArg List.length h3;have hb:=A6x _ h1;have h4:3<=(O2 (C9 s).b).length:=by simp[O2,Y7]; omega
 have h5:(O2 (C9 s).b).length<=400:=by simp[O2]; omega
 simp only[zx,ye] at hl;omega
structure C8A where
 bs:List Bt
 ends:List Nat
 last:Nat
 e:Int
def H1(s:List UInt8)(a:Nat):C8A :=
 if h:(C9 (s.drop a)).e=0 then
  ⟨(C9 (s.drop a)).b::(H1 s (a+(C9 (s.drop a)).n.toNat)).bs,a::(H1 s (a+(C9 (s.drop a)).n.toNat)).ends,(H1 s (a+(C9 (s.drop a)).n.toNat)).last,(H1 s (a+(C9 (s.drop a)).n.toNat)).e⟩
 else ⟨[],[a],a,(C9 (s.drop a)).e⟩
termination_by s.length - a
decreasing_by
 all_goals
  have:=A1N h;simp at this;omega
def A7V{s:List UInt8}{a:Nat}(h:(C9 (s.drop a)).e=0):H1 s a =
  ⟨(C9 (s.drop a)).b::(H1 s (a+(C9 (s.drop a)).n.toNat)).bs,a::(H1 s (a+(C9 (s.drop a)).n.toNat)).ends,(H1 s (a+(C9 (s.drop a)).n.toNat)).last,(H1 s (a+(C9 (s.drop a)).n.toNat)).e⟩:=by
 rw[H1,dif_pos h]
def A2F{s:List UInt8}{a:Nat}(h:¬(C9 (s.drop a)).e=0):H1 s a=⟨[],[a],a,(C9 (s.drop a)).e⟩:=by
 rw[H1,dif_neg h]
def A7W{s:List UInt8}{p:Nat->Prop}(stop:∀a,¬(C9 (s.drop a)).e=0->p a)(step:∀a,(C9 (s.drop a)).e=0->a+(C9 (s.drop a)).n.toNat<=s.length->p (a+(C9 (s.drop a)).n.toNat)->p a):∀(m a:Nat),s.length - a<m->p a
 | 0,a,h=>by omega
 | m+1,a,h=>by
  by_cases hd:(C9 (s.drop a)).e=0
  ·have:=A1N hd;simp at this;exact step a hd o_ (A7W stop step m _ o_)
  ·exact stop a hd
def Y8(s:List UInt8)(a:Nat)(ha:a<=s.length):a<=(H1 s a).last/\(H1 s a).last<=s.length/\(H1 s a).ends.getLast?=some (H1 s a).last/\(∀x∈(H1 s a).ends,a<=x/\x<=(H1 s a).last)/\(H1 s a).e≠0/\(H1 s a).ends.length=(H1 s a).bs.length+1/\(∀b∈(H1 s a).bs,J0 b=0):=by
 refine A7W (s:=s) (p:=λa=>a<=s.length->a<=(H1 s a).last/\(H1 s a).last<=s.length/\(H1 s a).ends.getLast?=some (H1 s a).last/\(∀x∈(H1 s a).ends,a<=x/\x<=(H1 s a).last)/\(H1 s a).e≠0/\(H1 s a).ends.length=(H1 s a).bs.length+1/\(∀b∈(H1 s a).bs,J0 b=0)) (λa hd ha=>?_) (λa hd hle ih ha=>?_) (s.length - a+1) a o_ ha
 ·rw[A2F hd];exact⟨zy _,ha,rfl,s_,hd,rfl,s_⟩
 ·obtain⟨i1,i2,i3,i4,i5,i6,i7⟩:=ih hle;rw[A7V hd];refine⟨n_,i2,?_,?_,i5,t_ i6,?_⟩
  ·simp only[List.getLast?_cons,i3]; rfl
  ·intro x hx;simp only[zh] at hx;rcases hx with rfl|hx
   ·exact⟨zy _,n_⟩
   ·have:=i4 x hx; exact⟨o_,this.2⟩
  ·intro b hb;simp only[zh] at hb;rcases hb with rfl|hb
   ·exact (A6y _ hd).1
   ·exact i7 b hb
end Go.Am
namespace Go.Am
open Go Go.Proofs Go.RowKit Go.Proofs.Tryz
def eN(l:List Nat):List AV:=l.map λ(n:Nat)=>AV.int .i64 (n:Int)
@[simp] theorem B65 (l:List Nat):F1 (eN l)=true:=E4 (λ_=>rfl) l
@[simp] theorem A8G (S:Nat->Prop) (l:List Nat):E8 S (eN l):=A5 _ (B65 l)
@[simp] theorem C8B (l:List Nat):(eN l).length=l.length:=by simp[eN]
@[simp] theorem A1B (l:List (List UInt8)):F1 (l.map AV.str)=true:=E4 (λ_=>rfl) l
@[simp] theorem C5P (S:Nat->Prop) (l:List (List UInt8)):E8 S (l.map AV.str):=A5 _ (A1B l)
@[simp] theorem C6u (R:Rn) (S:Nat->Prop) (l:List (List UInt8)):N8 R S (l.map AV.str) (l.map AV.str):=B4 rfl (A1B l)
structure CtX where
 a:Nat
 bs:List Bt
 pre:List Nat
def B4f(s:List UInt8)(id:Nat)(hs:s.length<=400):A2 prog 158 [.str s] [] id (.tup [.sl ((H1 s 0).bs.map eBt),.sl (eN (H1 s 0).ends),.int .i64 (H1 s 0).e]) []:=by
 refine w158.e.1 λE hP hR hl hid=>?_;simp[w158];refine C1 (X:=CtX) (λx=>⟨[(0,true,.str s),(5,true,.bsl E.n0 0 x.bs.length),(6,true,.bsl (E.n0+1) 0 (x.pre.length+1)),(7,true,.int .i64 x.a)],
   [(E.n0,some ⟨x.bs.map eBt,.agg [.int .i64 0,.nils],false,false⟩),(E.n0+1,some ⟨eN (x.pre++[x.a]),.int .i64 0,false,false⟩)],2⟩)
  (λx=>x.a<=s.length/\x.bs.length<=x.a/\x.pre.length<=x.a/\x.bs++(H1 s x.a).bs=(H1 s 0).bs/\x.pre++(H1 s x.a).ends=(H1 s 0).ends/\(H1 s x.a).e=(H1 s 0).e) (λx=>s.length - x.a) ⟨0,[],[]⟩ ?_ ⟨s_,s_,s_,rfl,rfl,rfl⟩ ?_
 ·refine D5.trans (D5.voidSlot 5 (x:=.nils) (y:=.bsl (E.n0+7168) 0 0) s_ .nils (.agg [.int .i64 0,.nils])) ?_;refine yV [(E.n0,E.n0+7168),(E.n0+1,E.n0+4096)] (by simp[eN]) λhrn=>⟨?_,?_,?_,?_,?_⟩<;>(try simp[eN])
 ·rintro⟨a,bs,pre⟩ ⟨ha,hb,hpl,hf1,hf2,hf3⟩ p hp;simp only at ha hb hpl hf1 hf2 hf3 hp;have hD:=B7i (s.drop a);simp only[eBt] at hD;refine A3 4000 ?_;simp;refine⟨ha,?_⟩;(refine yH rfl (hD _ m_) ?_; simp);refine D4 (λh=>?_) (λh=>?_)
  ·simp;have h':¬(C9 (s.drop a)).e=0:=(v_ h);rw[A2F h'] at hf1 hf2 hf3;simp only[wg] at hf1 hf2 hf3;rw[←hf1,←hf2,←hf3] at hR;have hrn:F3 []:=(by simp[A4 hid]);rw[hR];refine I6 f_ (by simp[A4 hid]<;>exact⟨rfl,rfl⟩) [] hrn ⟨?_,?_,?_,?_,?_,?_⟩<;>(try simp[A4 hid]);exact⟨zm s_,by rw[zm s_]; exact A8G _ _⟩
  ·simp;have h':(C9 (s.drop a)).e=0:=(v_ h);have hadv:=A1N h';simp only[ye] at hadv;obtain⟨n,hn⟩:∃n:Nat,(C9 (s.drop a)).n=n:=⟨_,hadv.2.2.1⟩;rw[hn] at hadv;simp only[uv] at hadv;have hw:IntKind.i64.wrap ((a:Int)+n)=((a+n:Nat):Int):=wrap64 o_;rw[A7V h',hn] at hf1 hf2 hf3;simp only[uv] at hf1 hf2 hf3;simp[hn,hw];refine⟨⟨o_,o_⟩,⟨o_,o_⟩,hp _ ⟨a+n,bs++[(C9 (s.drop a)).b],pre++[a]⟩ ⟨(by first|omega|(simp; omega)),m_,m_,v_ hf1,v_ hf2,hf3⟩ (by first|omega|(simp; omega)) ?_⟩;refine yV [(E.n0,E.n0+21506),(E.n0+1,E.n0+25602)] s_ λhrn=>⟨?_,?_,?_,?_,?_⟩<;>(try simp);exact⟨B4 (by simp[eBt]) (B3 (A5F bs) s_),B4 (by simp[eN]) (B3 (B65 _) s_)⟩
def F8(l:List (List UInt8)):List UInt8:=l.getLast?.getD []
@[simp] def bxS (l:List (List UInt8)):Bx:=⟨l.map AV.str,.str [],false,false⟩
def A0A{l:List (List UInt8)}(h:l≠[]):l[l.length - 1]?=some (F8 l):=by
 unfold F8;rw[rm];rw[zc (by have:=xu.2 h; omega)];rfl
def C2z(l:List (List UInt8))(syn:Int)(id:Nat)(hl8:l.length<=1000000):A2 prog 94 [.agg [.sl (l.map AV.str),.int .i64 syn]] [] id (.str (F8 l)) []:=by
 refine w94.e.1 λE hP hR hl hid=>?_;simp[w94];refine D4 (λh=>?_) (λh=>?_)
 ·simp;have h':l=[]:=by simpa using h
  subst h';exact yP hR (h1:=by simp; rfl)
 ·simp;have h':l≠[]:=by simpa using h
  have hg:=A0A h';have hp:=xu.2 h';have hw:IntKind.i64.wrap ((l.length:Int) - 1)=((l.length - 1:Nat):Int):=by rw[wrap64 o_]; omega
  simp[hw,hg];refine⟨o_,?_⟩;exact yP hR
def B02(j:Nat)(l:List (List UInt8))(syn:Int)(id:Nat)(hl8:l.length<=1000000):A2 prog 94 [.agg [.bsl j 0 l.length,.int .i64 syn]] [(j,bxS l)] id (.str (F8 l)) []:=by
 simp only[bxS];refine w94.e.1 λE hP hR hl hid=>?_;simp[w94];have hj:=hl (j,_) (za ..);simp only at hj;have j1:=lf hj;simp[j1];refine D4 (λh=>?_) (λh=>?_)
 ·simp[j1];have h':l=[]:=by simpa using h
  subst h';refine yE hR [] (by simp[j1,A4 hid]) λhrn=>⟨?_,?_,?_,?_,?_,?_⟩<;>(try simp[j1,A4 hid]);rfl
 ·simp[j1];have h':l≠[]:=by simpa using h
  have hg:=A0A h';have hp:=xu.2 h';have hw:IntKind.i64.wrap ((l.length:Int) - 1)=((l.length - 1:Nat):Int):=by rw[wrap64 o_]; omega
  simp[hw,hg,j1];refine⟨o_,?_⟩;exact yF hR [] (a_ j1 (A4 hid))
/-! ### Looking through a slice -/
def A2y{α:Type}(p:α->Bool):List α->Nat->Int
 | [],_=>-1
 | x::l,i=>if p x then (i:Int) else A2y p l (i+1)
def A6F{α:Type}(p:α->Bool):∀(l:List α) (i:Nat),decide (0<=A2y p l i)=l.any p
 | [],i=>by simp[A2y]
 | x::l,i=>by
  simp only[A2y,sw];by_cases hx:p x=true
  ·simp[hx]
  ·simp[hx,A6F p l (i+1)]
def C30(s:List UInt8)(id:Nat):A2 prog 157 [.str s] [] id (.bool (decide (400<s.length))) []:=by
 refine w157.e.1 λE hP hR hl hid=>?_;simp[w157];exact yP hR (h1:=m_)
def B1C(l:List (List UInt8))(id:Nat)(hl8:l.length<=8):A2 prog 222 [.sl (l.map AV.str),.fn 157 []] [] id (.int .i64 (A2y (λs=>decide (400<s.length)) l 0)) []:=by
 refine w222.e.1 λE hP hR hl hid=>?_;simp[w222];refine C1 (X:=Nat) (λi=>⟨[(0,true,.sl (l.map AV.str)),(1,true,.fn 157 []),(7,true,.int .i64 l.length),(8,true,.int .i64 i)],[],0⟩) (λi=>i<=l.length/\A2y (λs=>decide (400<s.length)) (l.drop i) i=A2y (λs=>decide (400<s.length)) l 0) (λi=>l.length - i) 0 ?_ ⟨o_,rfl⟩ ?_
 ·exact yW [] trivial
 ·rintro i ⟨hi,hf⟩ p hp;refine A3 4000 ?_;simp;refine D4 (λh=>?_) (λh=>?_)
  ·have h:=zr h;obtain⟨x,hx,hd⟩:=A8 h;rw[hd] at hf;simp only[A2y] at hf;have hi1:IntKind.i64.wrap ((i:Int)+1)=((i+1:Nat):Int):=wrap64 o_;simp[hx];refine⟨h,?_⟩;refine F9 hP rfl rfl (C30 x _) s_ f_ ?_;refine A3 4000 ?_;simp;refine D4 (λh1=>?_) (λh1=>?_)
   ·simp;rw[zj h1] at hf;exact yP hR (h1:=by simp; exact hf)
   ·simp;rw[zf (v_ h1)] at hf;refine hp _ (i+1) ⟨h,hf⟩ o_ ?_;exact yW [] hi1
  ·have h:=zq h;simp;rw[zo o_] at hf;exact yP hR (h1:=by simp; exact hf)
def A7F(l:List (List UInt8))(id:Nat)(hl8:l.length<=8):A2 prog 156 [.sl (l.map AV.str),.fn 157 []] [] id (.bool (l.any λs=>decide (400<s.length))) []:=by
 refine w156.e.1 λE hP hR hl hid=>?_;simp[w156];(refine yH rfl (B1C l _ hl8) ?_; simp);exact yP hR (h1:=by simp; rw[A6F])
def B9x(l:List Nat)(v:Int)(id:Nat)(hl8:l.length<=1000000):A2 prog 224 [.sl (eN l),.int .i64 v] [] id (.int .i64 (A2y (λ(x:Nat)=>v==(x:Int)) l 0)) []:=by
 unfold eN;refine w224.e.1 λE hP hR hl hid=>?_;simp[w224];refine C1 (X:=Nat) (λi=>⟨[(0,true,.sl (l.map λ(n:Nat)=>AV.int .i64 (n:Int))),(1,true,.int .i64 v),(7,true,.int .i64 l.length),(8,true,.int .i64 i)],[],0⟩) (λi=>i<=l.length/\A2y (λ(x:Nat)=>v==(x:Int)) (l.drop i) i=A2y (λ(x:Nat)=>v==(x:Int)) l 0) (λi=>l.length - i) 0 ?_ ⟨o_,rfl⟩ ?_
 ·refine yV [] s_ λhrn=>⟨?_,?_,?_,?_,?_⟩<;>(try simp);all_goals exact A8G _ _
 ·rintro i ⟨hi,hf⟩ p hp;refine A3 4000 ?_;simp;refine D4 (λh=>?_) (λh=>?_)
  ·have h:=zr h;obtain⟨x,hx,hd⟩:=A8 h;rw[hd] at hf;simp only[A2y] at hf;have hi1:IntKind.i64.wrap ((i:Int)+1)=((i+1:Nat):Int):=wrap64 o_;simp[hx];refine⟨h,?_⟩;refine D4 (λh1=>?_) (λh1=>?_)
   ·simp;rw[zj h1] at hf;exact yP hR (h1:=by simp; exact hf)
   ·simp;rw[zf (v_ h1)] at hf;refine hp _ (i+1) ⟨h,hf⟩ o_ ?_;refine yV [] (t_ hi1) λhrn=>⟨?_,?_,?_,?_,?_⟩<;>(try simp[hi1]);all_goals exact A8G _ _
  ·have h:=zq h;simp;rw[zo o_] at hf;exact yP hR (h1:=by simp; exact hf)
def B2z(l:List Nat)(v:Int)(id:Nat)(hl8:l.length<=1000000):A2 prog 159 [.sl (eN l),.int .i64 v] [] id (.bool (l.any λ(x:Nat)=>v==(x:Int))) []:=by
 refine w159.e.1 λE hP hR hl hid=>?_;simp[w159];(refine yH rfl (B9x l v _ hl8) ?_; simp);exact yP hR (h1:=by simp; rw[A6F])
structure Dk where
 seg:List (List UInt8)
 syn:Int
def eDk(d:Dk):AV:=.agg [.sl (d.seg.map AV.str),.int .i64 d.syn]
structure SgS where
 e:Int
 ends:List Nat
def q8:List (List UInt8)->List Nat->SgS
 | [],ends=>⟨0,ends⟩
 | s::r,_=>if (H1 s 0).e≠5 then ⟨(H1 s 0).e,[]⟩ else if r≠[]/\(H1 s 0).last<s.length then ⟨4,[]⟩ else q8 r (H1 s 0).ends
def H5(d:Dk):Int :=
 if 8<d.seg.length\/(d.seg.any λs=>decide (400<s.length))=true then 2
 else if (q8 d.seg [0]).e≠0 then (q8 d.seg [0]).e
 else if ((q8 d.seg [0]).ends.any λ(x:Nat)=>d.syn==(x:Int))=true then 0 else 3
def A8H:∀(l:List (List UInt8)) (en:List Nat),en.length<=401->(∀s∈l,s.length<=400)->(q8 l en).ends.length<=401
 | [],en,h,_=>h
 | s::r,en,h,hl=>by
  have hf:=(Y8 s 0 o_).2.2.2.2.2.1;have hb:(H1 s 0).bs.length<=s.length:=by
   have:=A7W (s:=s) (p:=λa=>a<=s.length->(H1 s a).bs.length<=s.length - a) (λa hd ha=>by rw[A2F hd]; simp) (λa hd hle ih ha=>by
    have:=ih hle;have:=A1N hd;rw[A7V hd]; simp only[zt]; omega) (s.length+1) 0 o_ o_
   omega
  have:=hl s s_;simp only[q8];split
  ·simp
  ·split
   ·simp
   ·exact A8H r _ o_ λx hx=>hl x (t_ hx)
def A8I(s:List UInt8):(H1 s 0).ends[(H1 s 0).ends.length - 1]?=some (H1 s 0).last/\1<=(H1 s 0).ends.length/\(H1 s 0).ends.length<=s.length+1:=by
 have hf:=Y8 s 0 o_;have h1:=hf.2.2.1;rw[rm] at h1;have hb:(H1 s 0).bs.length<=s.length:=by
  have:=A7W (s:=s) (p:=λa=>a<=s.length->(H1 s a).bs.length<=s.length - a) (λa hd ha=>by rw[A2F hd]; simp) (λa hd hle ih ha=>by
   have:=ih hle;have:=A1N hd;rw[A7V hd]; simp only[zt]; omega) (s.length+1) 0 o_ o_
  omega
 exact⟨h1,o_,o_⟩
def A6G(d:Dk)(id:Nat):A2 prog 91 [eDk d] [] id (.int .i64 (H5 d)) []:=by
 unfold eDk;refine w91.e.1 λE hP hR hl hid=>?_;simp[w91];(refine H8 hP s_ rfl (λhc=>⟨A7F d.seg _ (by revert hc; simp; omega),by revert hc; simp; try grind,s_⟩) ?_; refine A3 4000 ?_; simp);refine D4 (λh=>?_) (λh=>?_)
 ·simp;have h':8<d.seg.length\/(d.seg.any λs=>decide (400<s.length))=true:=by
   simp at h ⊢; rcases h with h|h
   ·exact .inl o_
   ·exact .inr h
  have hv:H5 d=2:=by unfold H5; rw[zj h']
  rw[hv] at hR;exact yP hR
 ·have h':¬(8<d.seg.length\/(d.seg.any λs=>decide (400<s.length))=true):=by
   simp at h ⊢; exact⟨o_,h.2⟩
  have h8:d.seg.length<=8:=by omega
  have hss:∀s∈d.seg,s.length<=400:=λs hs=>by
   simp at h'; exact h'.2 s hs
  have hv:H5 d=if (q8 d.seg [0]).e≠0 then (q8 d.seg [0]).e else if ((q8 d.seg [0]).ends.any λ(x:Nat)=>d.syn==(x:Int))=true then 0 else 3:=by unfold H5; rw[zf h']
  rw[hv] at hR;have hen:=A8H d.seg [0] s_ hss;simp;refine C1 (X:=Nat×List Nat) (λx=>⟨[(1,true,.ptr E.n0 0 0),(3,true,.sl (eN x.2)),(20,true,.sl (d.seg.map AV.str)),(21,true,.int .i64 d.seg.length),(22,true,.int .i64 x.1)],[(E.n0,some ⟨[.agg [.sl (d.seg.map AV.str),.int .i64 d.syn]],.agg [.nils,.int .i64 0],false,false⟩)],1⟩)
   (λx=>x.1<=d.seg.length/\q8 (d.seg.drop x.1) x.2=q8 d.seg [0]) (λx=>d.seg.length - x.1) (0,[0]) ?_ ⟨s_,rfl⟩ ?_
  ·refine D5.trans (D5.frz 3 (x:=.bsl (E.n0+11264) 0 1) (x':=.sl [.int .i64 0]) (fz:=[(E.n0+11264,⟨[.int .i64 0],.int .i64 0,false,false⟩)]) s_ s_ s_ s_) ?_;refine yV [(E.n0,E.n0)] (by simp[eN]) λhrn=>⟨?_,?_,?_,?_,?_⟩<;>(try simp[eN]);exact A5 _ rfl
  ·rintro⟨i,ends⟩ ⟨hi,hf⟩ p hp;simp only at hi hf hp;refine A3 4000 ?_;simp;refine D4 (λh=>?_) (λh=>?_)
   ·have h:=zr h;obtain⟨x,hx,hd⟩:=A8 h;rw[hd] at hf;simp only[q8] at hf;have hi1:IntKind.i64.wrap ((i:Int)+1)=((i+1:Nat):Int):=wrap64 o_;have hx4:=hss x (zg hx);obtain⟨g1,g2,g3⟩:=A8I x;simp[hx];refine⟨h,?_⟩;(refine yH rfl (B4f x _ hx4) ?_; simp);refine D4 (λh1=>?_) (λh1=>?_)
    ·simp;have h1':(H1 x 0).e≠5:=(v_ h1);rw[zj h1'] at hf;rw[←hf,zj (Y8 x 0 o_).2.2.2.2.1] at hR;exact yP hR
    ·simp;have h1':¬(H1 x 0).e≠5:=(v_ h1);rw[zf h1'] at hf;have hwl:IntKind.i64.wrap ((d.seg.length:Int) - 1)=(d.seg.length:Int) - 1:=wrap64 o_;have hwe:IntKind.i64.wrap (((H1 x 0).ends.length:Int) - 1)=(((H1 x 0).ends.length - 1:Nat):Int):=(by rw[wrap64 o_]; omega);have hel:(eN (H1 x 0).ends)[(H1 x 0).ends.length - 1]?=some (.int .i64 ((H1 x 0).last:Int)):=(by simp[eN,g1]);simp[hwl,hwe,hel];refine⟨λhh=>⟨hh,o_⟩,?_⟩;have hr:d.seg.drop (i+1)≠[]↔(i:Int)<(d.seg.length:Int) - 1:=m_;refine D4 (λh2=>?_) (λh2=>?_)
     ·simp;have h2':d.seg.drop (i+1)≠[]/\(H1 x 0).last<x.length:=by
       rw[hr]; simpa using h2
      rw[zj h2'] at hf;rw[←hf] at hR;rw[zj s_] at hR;exact yP hR
     ·simp;have h2':¬(d.seg.drop (i+1)≠[]/\(H1 x 0).last<x.length):=by
       rw[hr]; simpa using h2
      rw[zf h2'] at hf;refine hp _ (i+1,(H1 x 0).ends) ⟨h,hf⟩ (by simp only[]; omega) ?_;exact yW [(E.n0,E.n0)] hi1
   ·have h:=zq h;simp;rw[zo o_] at hf;simp only[q8] at hf;rw[←hf] at hR hen;simp only[ne_eq,not_true_eq_false,if_false] at hR;(refine yH rfl (B2z ends d.syn _ (by simp only at hen; omega)) ?_; simp);refine D4 (λh1=>?_) (λh1=>?_)
    ·simp;have h1':¬(ends.any λ(x:Nat)=>d.syn==(x:Int))=true:=(v_ h1);rw[zf h1'] at hR;exact yP hR
    ·simp;have h1':(ends.any λ(x:Nat)=>d.syn==(x:Int))=true:=(v_ h1);rw[zj h1'] at hR;exact yP hR
/-! ### The keeper -/
@[simp] def bxK (j n:Nat) (syn:Int):Bx:=⟨[.agg [.bsl j 0 n,.int .i64 syn]],.agg [.nils,.int .i64 0],false,false⟩
def B9y(l:List (List UInt8))(id:Nat)(hl8:l.length<=1000000):A2 prog 160 [.sl (l.map AV.str)] [] id (.bsl id 0 l.length) [(id,some (bxS l))]:=by
 simp only[bxS];refine A4a w160.hf w160.hc w160.hn w160.hr (by simp[ntmps160]) λE hP hR hl hid=>?_;refine A3 9 ?_;simp[w160];refine B9k (s:=0) (d:=3) (e:=4) (xs:=l.map AV.str) s_ d_ (λhx=>?_) ?_
 ·refine A3 10 ?_;simp;have hx:l=[]:=by simpa using hx
  subst hx;refine A4Y (D5.voidSlot 2 (x:=.nils) (y:=.bsl (E.n0+4096) 0 0) s_ .nils (.str [])) ?_;refine A3 4000 ?_;simp;exact yF hR [(id,E.n0+4096)] (A4 hid)
 ·refine A3 4000 ?_;simp;refine⟨⟨o_,o_⟩,?_⟩;exact yF hR [(id,E.n0+5120)] (A4 hid)
def B4g(l:List (List UInt8))(syn:Int)(id:Nat)(hl8:l.length<=1000000):A2 prog 92 [.agg [.sl (l.map AV.str),.int .i64 syn]] [] id (.ptr id 0 0) [(id,some (bxK (id+1) l.length syn)),(id+1,some (bxS l))]:=by
 simp only[bxK,bxS];refine w92.e.1 λE hP hR hl hid=>?_;simp[w92];(refine yH rfl (B9y l _ hl8) ?_; simp);have hrn:F3 [(id,E.n0+9216),(id+1,E.n0+4096)]:=by simp[A4 hid,A3L hid,A1g hid,A0W hid,A0X hid,p8 hid]
 rw[hR];refine E6 f_ [(id,E.n0+9216),(id+1,E.n0+4096)] hrn ⟨?_,?_,?_,?_,?_,?_⟩<;>(try simp[A4 hid,A3L hid,A1g hid,A0W hid,A0X hid,p8 hid])
def B66(k j:Nat)(l:List (List UInt8))(syn:Int)(id:Nat)(hl8:l.length<=8)(h4:(F8 l).length<=400)(hkj:k≠j):A2 prog 107 [.ptr k 0 0] [(k,bxK j l.length syn),(j,bxS l)] id (.int .i64 ((H1 (F8 l) 0).last:Int)) []:=by
 simp only[bxK,bxS];refine w107.e.1 λE hP hR hl hid=>?_;simp[w107];have hk:=hl (k,_) (za ..);simp only at hk;have k1:=lf hk;have hj:=hl (j,_) (zb _ (za ..));simp only at hj;have j1:=lf hj;have hkj':=hkj.symm;(refine yC rfl (B02 j l syn _ o_) ?_; simp[k1,j1,hkj,hkj']);(refine yC rfl (B4f (F8 l) _ h4) ?_; simp[k1,j1,hkj,hkj']);obtain⟨g1,g2,g3⟩:=A8I (F8 l);have hwe:IntKind.i64.wrap (((H1 (F8 l) 0).ends.length:Int) - 1)=(((H1 (F8 l) 0).ends.length - 1:Nat):Int):=by rw[wrap64 o_]; omega
 have hel:(eN (H1 (F8 l) 0).ends)[(H1 (F8 l) 0).ends.length - 1]?=some (.int .i64 ((H1 (F8 l) 0).last:Int)):=by simp[eN,g1]
 simp[hwe,hel];refine⟨o_,?_⟩;exact yF hR [] (a_ k1 (a_ j1 (a_ hkj (a_ hkj' (A4 hid)))))
def B67(k j:Nat)(l:List (List UInt8))(syn:Int)(id:Nat)(hl8:l.length<=8)(h4:(F8 l).length<=400)(hkj:k≠j):A2 prog 152 [.ptr k 0 0] [(k,bxK j l.length syn),(j,bxS l)] id (.bool (decide ((H1 (F8 l) 0).last<(F8 l).length))) []:=by
 have he:=B66 k j l syn;simp only[bxK,bxS] at he ⊢;refine w152.e.1 λE hP hR hl hid=>?_;simp[w152];have hk:=hl (k,_) (za ..);simp only at hk;have k1:=lf hk;have hj:=hl (j,_) (zb _ (za ..));simp only at hj;have j1:=lf hj;have hkj':=hkj.symm;(refine yC rfl (he _ hl8 h4 hkj) ?_; simp[k1,j1,hkj,hkj']);(refine yC rfl (B02 j l syn _ o_) ?_; simp[k1,j1,hkj,hkj']);exact yF hR [] (a_ k1 (a_ j1 (a_ hkj (a_ hkj' (A4 hid)))))
def A7G(l:List (List UInt8))(s:List UInt8):List (List UInt8):=l.set (l.length - 1) s
def A5G(l:List (List UInt8))(n:Nat):List (List UInt8):=A7G l ((F8 l).take n)
def C31(k j:Nat)(l:List (List UInt8))(syn:Int)(n:Nat)(id:Nat)(hl8:l.length<=8)(hn:n<=(F8 l).length)(h4:(F8 l).length<=400)(hkj:k≠j):A2 prog 93 [.ptr k 0 0,.int .i64 n] [(k,bxK j l.length syn),(j,bxS l)] id (.tup []) [(j,some (bxS (A5G l n)))]:=by
 simp only[bxK,bxS];refine w93.e.1 λE hP hR hl hid=>?_;simp[w93];have hk:=hl (k,_) (za ..);simp only at hk;have k1:=lf hk;have hj:=hl (j,_) (zb _ (za ..));simp only at hj;have j1:=lf hj;have hkj':=hkj.symm;simp[k1,j1,hkj,hkj'];have hw:IntKind.i64.wrap ((l.length:Int) - 1)=(l.length:Int) - 1:=wrap64 o_;refine D4 (λh=>?_) (λh=>?_)
 ·have h':l≠[]:=by
   intro h0;have h:=zr h;rw[hw,h0] at h;simp at h
  have hg:=A0A h';have hp:=xu.2 h';have hw2:IntKind.i64.wrap ((l.length:Int) - 1)=((l.length - 1:Nat):Int):=by rw[hw]; omega
  simp[k1,j1,hkj,hkj',hw2,hg];refine⟨o_,hn,o_,?_⟩;refine yE hR [] (by simp[k1,j1,hkj,hkj',A4 hid]) λhrn=>⟨?_,?_,?_,?_,?_,?_⟩<;>(try simp[k1,j1,hkj,hkj',A4 hid]);all_goals exact B4 (by simp[A5G,A7G,so]) (by rw[←so]; exact A1B _)
 ·have h:=zq h;rw[hw] at h;have h':l=[]:=wt o_;subst h';have hneg0:IntKind.i64.wrap (-1) = -1:=wrap64 o_;simp[k1,j1,hkj,hkj',hneg0];have hneg:IntKind.i64.wrap (-1) = -1:=wrap64 o_;refine yE hR [] (by simp[k1,j1,hkj,hkj',A5G,A7G,hneg,A4 hid]) λhrn=>⟨?_,?_,?_,?_,?_,?_⟩<;>(try simp[k1,j1,hkj,hkj',A5G,A7G,hneg,A4 hid])
def C32(k j:Nat)(l:List (List UInt8))(syn:Int)(s:List UInt8)(id:Nat)(hl8:l.length<=8)(hne:l≠[])(hs:(F8 l).length+s.length<=400)(hkj:k≠j):A2 prog 153 [.ptr k 0 0,.str s] [(k,bxK j l.length syn),(j,bxS l)] id (.bool true) [(j,some (bxS (A7G l (F8 l++s))))]:=by
 simp only[bxK,bxS];refine w153.e.1 λE hP hR hl hid=>?_;simp[w153];have hk:=hl (k,_) (za ..);simp only at hk;have k1:=lf hk;have hj:=hl (j,_) (zb _ (za ..));simp only at hj;have j1:=lf hj;have hkj':=hkj.symm;have hg:=A0A hne;have hp:=xu.2 hne;have hw2:IntKind.i64.wrap ((l.length:Int) - 1)=((l.length - 1:Nat):Int):=by rw[wrap64 o_]; omega
 have hw3:IntKind.i64.wrap (((F8 l).length:Int)+s.length)=(F8 l).length+s.length:=wrap64 o_;simp[k1,j1,hkj,hkj',hw2,hg,hw3,hp];refine⟨o_,?_⟩;refine A7 m_ ?_;simp[k1,j1,hkj,hkj',hw2,hg];(repeat (refine And.intro (by first|assumption|omega|(simp; omega)|(simp_all; done)) ?_));refine yE hR [] (by simp[k1,j1,hkj,hkj',A4 hid]) λhrn=>⟨?_,?_,?_,?_,?_,?_⟩<;>(try simp[k1,j1,hkj,hkj',A4 hid]);all_goals exact B4 (by simp[A7G,so]) (by rw[←so]; exact A1B _)
def C33(k j:Nat)(l:List (List UInt8))(syn:Int)(s:List UInt8)(id:Nat)(hl8:l.length=8)(hs:¬(F8 l).length+s.length<=400)(h4:(F8 l).length<=400)(hs4:s.length<=1000)(hkj:k≠j):A2 prog 153 [.ptr k 0 0,.str s] [(k,bxK j l.length syn),(j,bxS l)] id (.bool false) []:=by
 simp only[bxK,bxS];refine w153.e.1 λE hP hR hl hid=>?_;simp[w153];have hk:=hl (k,_) (za ..);simp only at hk;have k1:=lf hk;have hj:=hl (j,_) (zb _ (za ..));simp only at hj;have j1:=lf hj;have hkj':=hkj.symm;have hne:l≠[]:=by intro h; subst h; simp at hl8
 have hg:=A0A hne;have hp:=xu.2 hne;have hw2:IntKind.i64.wrap ((l.length:Int) - 1)=((l.length - 1:Nat):Int):=by rw[wrap64 o_]; omega
 have hw3:IntKind.i64.wrap (((F8 l).length:Int)+s.length)=(F8 l).length+s.length:=wrap64 o_;simp[k1,j1,hkj,hkj',hw2,hg,hw3,hp];refine⟨o_,?_⟩;refine A0 m_ ?_;simp;refine A7 m_ ?_;simp;exact yF hR [] (a_ k1 (a_ j1 (a_ hkj (a_ hkj' (A4 hid)))))
def C34(k j:Nat)(l:List (List UInt8))(syn:Int)(s:List UInt8)(id:Nat)(hl8:l.length<8)(hs:l=[]\/¬(F8 l).length+s.length<=400)(h4:(F8 l).length<=400)(hs4:s.length<=1000)(hkj:k≠j):A2 prog 153 [.ptr k 0 0,.str s] [(k,bxK j l.length syn),(j,bxS l)] id (.bool true) [(k,some (bxK id (l++[s]).length 0)),(j,none),(id,some (bxS (l++[s])))]:=by
 simp only[bxK,bxS];refine w153.e.1 λE hP hR hl hid=>?_;simp[w153];have hk:=hl (k,_) (za ..);simp only at hk;have k1:=lf hk;have hj:=hl (j,_) (zb _ (za ..));simp only at hj;have j1:=lf hj;have hkj':=hkj.symm;by_cases hne:l=[]
 ·subst hne;simp[k1,j1,hkj,hkj'];refine yE hR [(id,E.n0+38912)] (by simp[A2x hk.2,A0h hk.2,A2x hj.2,A0h hj.2,k1,j1,hkj,hkj',A4 hid]) λhrn=>⟨?_,?_,?_,?_,?_,?_⟩<;>(try simp[A2x hk.2,A0h hk.2,A2x hj.2,A0h hj.2,k1,j1,hkj,hkj',A4 hid])
 ·have hs:=hs.resolve_left hne;have hg:=A0A hne;have hp:=xu.2 hne;have hw2:IntKind.i64.wrap ((l.length:Int) - 1)=((l.length - 1:Nat):Int):=by rw[wrap64 o_]; omega
  have hw3:IntKind.i64.wrap (((F8 l).length:Int)+s.length)=(F8 l).length+s.length:=wrap64 o_;simp[k1,j1,hkj,hkj',hw2,hg,hw3,hp];refine⟨o_,?_⟩;refine A0 m_ ?_;simp;refine A0 m_ ?_;simp[k1,j1,hkj,hkj'];(repeat (refine And.intro (by first|assumption|omega|(simp; omega)|(simp_all; done)) ?_));refine yE hR [(id,E.n0+38912)] (by simp[A2x hk.2,A0h hk.2,A2x hj.2,A0h hj.2,k1,j1,hkj,hkj',A4 hid]) λhrn=>⟨?_,?_,?_,?_,?_,?_⟩<;>(try simp[A2x hk.2,A0h hk.2,A2x hj.2,A0h hj.2,k1,j1,hkj,hkj',A4 hid]);all_goals exact B4 rfl (B3 (A1B l) rfl)
end Go.Am
