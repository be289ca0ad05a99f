/- Parts of the proof: an abstract machine for Go functions, and what functions of the program give back (Rf1, Rf2, Rf3, Rf4, Pl1, Bl1, Dk1, Dk2, Dk3, Dk4). No condition. -/
import Derived.Test.YtphjabjjnncebaaGreatDoorXG
import Derived.Test.YtphjabjjnncebaaGreatDoorXE
set_option maxRecDepth 100000
set_option linter.all false
set_option maxHeartbeats 1000000
namespace Go.Am
open Go Go.Proofs Go.RowKit
@[simp] theorem C4c (b:UInt8):A5S (.int .u8 b.toNat)=b:=by simp[A5S]
def A1o(a b:Ev):Bool:=a.kind==b.kind&&(a.type==b.type&&(a.id==b.id&&(a.field==b.field&&(a.n==b.n&&a.text==b.text))))
theorem A7h(a b:Ev):A1o a b=true↔a=b:=by
 obtain⟨k,t,i,f,n,x⟩:=a;obtain⟨k',t',i',f',n',x'⟩:=b;simp[A1o]
def Z4{α:Type}(f:α->α->Bool):List α->List α->Bool
 | [],[]=>true
 | x::a,y::b=>f x y&&Z4 f a b
 | _,_=>false
theorem A4s{α:Type}{f:α->α->Bool}:∀{a b:List α},a.length≠b.length->Z4 f a b=false
 | [],[],h=>(h rfl).elim
 | [],_::_,_=>rfl
 | _::_,[],_=>rfl
 | x::a,y::b,h=>by simp only[Z4]; rw[A4s (a:=a) (b:=b) (by simpa using h)]; simp
theorem A3p{α:Type}{f:α->α->Bool}(hf:∀x y,f x y=true↔x=y):∀{a b:List α},Z4 f a b=true↔a=b
 | [],[]=>by simp[Z4]
 | [],_::_=>by simp[Z4]
 | _::_,[]=>by simp[Z4]
 | x::a,y::b=>by simp[Z4,hf,A3p hf (a:=a) (b:=b)]
theorem A8s(a b:List Ev)(id:Nat)(hl:a.length<9223372036854775807):A2 Tryz.prog 19 [.sl (a.map K7),.sl (b.map K7)] [] id (.bool (Z4 A1o a b)) []:=by
 refine w19.e.1 fun E hP hR hl hid=>?_;simp[w19];refine E5 (fun h=>?_) (fun h=>?_)
 ·simp;have h':a.length≠b.length:=by simp at h; omega
  rw[A4s h'] at hR;exact yP hR
 ·simp;have h':a.length=b.length:=by simp at h; omega
  refine D0 (X:=Nat) (fun i=>⟨[(0,true,.sl (a.map K7)),(1,true,.sl (b.map K7)),(5,true,.int .i64 i)],[],0⟩) (fun i=>i<=a.length/\Z4 A1o (a.drop i) (b.drop i)=Z4 A1o a b) (fun i=>a.length - i) 0 ?_ ⟨by omega,rfl⟩ ?_
  ·refine yV [] (by simp) fun hrn=>⟨?_,?_,?_,?_,?_⟩<;>(try simp)
  ·rintro i ⟨hi,hf⟩ p hp;refine A3 4000 ?_;simp;refine E5 (fun h=>?_) (fun h=>?_)
   ·have h:=zr h;obtain⟨x,hx,hd⟩:=B2 h;obtain⟨y,hy,hd'⟩:=B2 (l:=b) (i:=i) (by omega);rw[hd,hd'] at hf;simp only[Z4] at hf;have hi1:IntKind.i64.wrap ((i:Int)+1)=((i+1:Nat):Int):=A5 (by omega);simp[hx,hy,K7];(repeat (refine And.intro (by first|assumption|omega|(simp; omega)|(simp_all; done)) ?_));simp[A0c,A1w];refine E5 (fun h2=>?_) (fun h2=>?_)
    ·simp;have h2':A1o x y=false:=by
      cases hs:A1o x y with
      | false=>rfl
      | true=>rw[(A7h x y).1 hs] at h2; simp at h2
     rw[h2',vv] at hf;exact yP hR (h1:=by simp; exact hf.symm)
    ·simp;have h2':A1o x y=true:=(by rw[A1o]; simpa using h2);rw[h2',vt] at hf;refine hp _ (i+1) ⟨h,hf⟩ (by omega) ?_;refine yV [] (by simp[hi1]) fun hrn=>⟨?_,?_,?_,?_,?_⟩<;>(try simp[hi1])
   ·have h:=zp h;simp;rw[zn (by omega),zn (by omega)] at hf;exact yP hR (h1:=by simp; exact hf.symm)
def A1p(a b:Bt):Bool:=a.number==b.number&&Z4 A1o a.events b.events
theorem B47(a b:Bt):A1p a b=true↔a=b:=by
 obtain⟨n,l⟩:=a;obtain⟨n',l'⟩:=b;simp[A1p,A3p A7h]
theorem B2Q(b:Bt):(Y9 b).pureB=true:=by simp[Y9]
@[simp] theorem A4t (l:List Bt):F9 (l.map Y9)=true:=E7 B2Q l
@[simp] theorem C4d (S:Nat->Prop) (l:List Bt):F3 S (l.map Y9):=B3 _ (A4t l)
theorem A7i(a b:List Bt)(id:Nat)(hl:a.length<9223372036854775807)(hl2:∀x∈a,x.events.length<9223372036854775807):A2 Tryz.prog 30 [.sl (a.map Y9),.sl (b.map Y9)] [] id (.bool (Z4 A1p a b)) []:=by
 refine w30.e.1 fun E hP hR hl hid=>?_;simp[w30];refine E5 (fun h=>?_) (fun h=>?_)
 ·simp;have h':a.length≠b.length:=by simp at h; omega
  rw[A4s h'] at hR;exact yP hR
 ·simp;have h':a.length=b.length:=by simp at h; omega
  refine D0 (X:=Nat) (fun i=>⟨[(0,true,.sl (a.map Y9)),(1,true,.sl (b.map Y9)),(5,true,.int .i64 i)],[],0⟩) (fun i=>i<=a.length/\Z4 A1p (a.drop i) (b.drop i)=Z4 A1p a b) (fun i=>a.length - i) 0 ?_ ⟨by omega,rfl⟩ ?_
  ·refine yV [] (by simp) fun hrn=>⟨?_,?_,?_,?_,?_⟩<;>(try simp)
  ·rintro i ⟨hi,hf⟩ p hp;refine A3 4000 ?_;simp;refine E5 (fun h=>?_) (fun h=>?_)
   ·have h:=zr h;obtain⟨x,hx,hd⟩:=B2 h;obtain⟨y,hy,hd'⟩:=B2 (l:=b) (i:=i) (by omega);rw[hd,hd'] at hf;simp only[Z4] at hf;have hi1:IntKind.i64.wrap ((i:Int)+1)=((i+1:Nat):Int):=A5 (by omega);simp[hx,hy,Y9];(repeat (refine And.intro (by first|assumption|omega|(simp; omega)|(simp_all; done)) ?_));(refine yG rfl (A8s x.events y.events _ (hl2 x (zg hx))) ?_; simp);(repeat (refine And.intro (by first|assumption|omega|(simp; omega)|(simp_all; done)) ?_));refine E5 (fun h2=>?_) (fun h2=>?_)
    ·simp;have h2':A1p x y=false:=by
      cases hs:A1p x y with
      | false=>rfl
      | true =>
       rw[A1p,yg] at hs;rw[hs.2] at h2;have:=hs.1;simp_all
     rw[h2',vv] at hf;exact yP hR (h1:=by simp; exact hf.symm)
    ·simp;have h2':A1p x y=true:=(by rw[A1p]; simp_all);rw[h2',vt] at hf;refine hp _ (i+1) ⟨h,hf⟩ (by omega) ?_;refine yV [] (by simp[hi1]) fun hrn=>⟨?_,?_,?_,?_,?_⟩<;>(try simp[hi1])
   ·have h:=zp h;simp;rw[zn (by omega),zn (by omega)] at hf;exact yP hR (h1:=by simp; exact hf.symm)
end Go.Am
namespace Go.Am
open Go Go.RowKit
theorem A9Y(c:UInt8)(l:List UInt8):J3 (c::l)=c.toNat*256 ^ l.length+J3 l:=by
 have key:∀(l:List UInt8) (n:Int),l.foldl (fun n c=>256*n+(c.toNat:Int)) n=n*256 ^ l.length+J3 l:=fun l=>by
  induction l with
  | nil=>intro n; simp[J3]
  | cons d l ih =>
   intro n;simp only[wm,J3,yd];rw[ih,ih (256*0+(d.toNat:Int)),rj];simp only[Int.add_mul,rk 256 n,qe,rk 256 (256 ^ l.length)];omega
 simp only[J3,wm];rw[key];simp[J3]
theorem B2R(n:Int):((A0s n).toNat:Int)=n % 256:=by
 unfold A0s;simp[UInt8.toNat_ofNat']; omega
theorem C3i(k:Nat):(2:Int) ^ (8*k)=256 ^ k:=by
 rw[Int.pow_mul]; rfl
theorem B48(n B:Int)(hB:0<B):n % (B*256)=n / B % 256*B+n % B:=by
 have h1:=rm n B;have h2:=rm (n / B) 256;have h3:=Int.emod_nonneg n (show B≠0 by omega);have h4:=Int.emod_lt_of_pos n hB;have h5:0<=n / B % 256:=by omega
 have h6:n / B % 256<=255:=by omega
 have h7:0<=n / B % 256*B:=Int.mul_nonneg h5 (by omega);have h8:n / B % 256*B<=255*B:=Int.mul_le_mul_of_nonneg_right h6 (by omega);have e:n=(n / B % 256*B+n % B)+(B*256)*(n / B / 256):=by
  have h9:B*(n / B)=B*(n / B % 256)+B*256*(n / B / 256):=by
   rw[qe,←Int.mul_add,h2]
  rw[rk (n / B % 256) B];omega
 have:n % (B*256)=((n / B % 256*B+n % B)+(B*256)*(n / B / 256)) % (B*256):=by rw[←e]
 rw[this,Int.add_mul_emod_self_left,Int.emod_eq_of_lt (by omega) (by omega)]
theorem B2S(n:Int):∀k,J3 (c6 n k)=n % 256 ^ k
 | 0=>by simp[c6,J3]
 | k+1=>by
  rw[c6,A9Y,B2S n k,P5,B2R,C3i,rj,B48 _ _ (Int.pow_pos (by omega))]
theorem B2T{n:Int}{k:Nat}(h0:0<=n)(h:n<256 ^ k):J3 (c6 n k)=n:=by
 rw[B2S,Int.emod_eq_of_lt h0 h]
theorem B5M(n m:Int):∀k j,k<=j->c6 (n*256 ^ j+m) k=c6 m k
 | 0,_,_=>rfl
 | k+1,j,h=>by
  simp only[c6];rw[B5M n m k j (by omega)];congr 1
  obtain⟨d,rfl⟩:∃d,j=k+1+d:=⟨j - (k+1),by omega⟩;have e:n*256 ^ (k+1+d)+m=m+(n*256 ^ d*256)*256 ^ k:=by
   rw[Int.pow_add,rj];simp only[rk,qe,Int.mul_left_comm];omega
  rw[C3i,e,sw _ _ (by have:=Int.pow_pos (n:=256) (m:=k) (by omega); omega)];unfold A0s;rw[Int.add_mul_emod_self_right]
theorem B2U:∀l:List UInt8,c6 (J3 l) l.length=l
 | []=>rfl
 | c::l=>by
  have hb:=A0B l;simp only[yd,c6];rw[A9Y,B5M _ _ _ _ (ya _),B2U l,C3i];congr 1
  rw[Int.add_comm,sw _ _ (by omega),Int.ediv_eq_zero_of_lt hb.1 hb.2,Int.zero_add];unfold A0s;have:=c.toNat_lt;rw[show ((c.toNat:Int) % 256).toNat=c.toNat by omega];simp
theorem A5c{a b:List UInt8}{k:Nat}(h:a.length=k):D6 (a++b) k=a:=by subst h; unfold D6; rw[zf (by simp)]; simp
theorem A9Z{a b:List UInt8}{k:Nat}(h:a.length=k):A7 (a++b) k=b:=by subst h; unfold A7; rw[zf (by simp)]; simp
theorem B0p{a b:List UInt8}{sh:Bool}{k:Nat}(h:a.length=k):sh1 (a++b) sh k=sh:=by subst h; unfold sh1; simp; omega
theorem A2X{n:Int}{k:Nat}(b:List UInt8)(h0:0<=n)(h:n<256 ^ k):J3 (D6 (c6 n k++b) k)=n:=by rw[A5c (P5 n k),B2T h0 h]
theorem A2Y(n:Int)(k:Nat)(b:List UInt8):A7 (c6 n k++b) k=b:=A9Z (P5 n k)
theorem A2Z(n:Int)(k:Nat)(b:List UInt8)(sh:Bool):sh1 (c6 n k++b) sh k=sh:=B0p (P5 n k)
theorem B6p(e:Ev)(h:U1 e=0):(1<=e.kind/\e.kind<=6)/\(e.kind=4->e.n=0)/\(e.kind≠4->e.text=[])/\(e.kind=1\/e.kind=2->e.field=0/\e.n=0):=by
 unfold U1 at h;split at h
 ·omega
 ·split at h
  ·omega
  ·rename_i h1 h2;refine⟨by omega,fun h3=>?_,fun h3=>?_,fun h3=>?_⟩
   ·apply zl; intro h4; exact h2 (.inr (.inl ⟨h3,h4⟩))
   ·apply zl; intro h4; exact h2 (.inr (.inr ⟨h3,h4⟩))
   ·constructor
    ·apply zl; intro h4; exact h2 (.inl ⟨h3,.inl h4⟩)
    ·apply zl; intro h4; exact h2 (.inl ⟨h3,.inr h4⟩)
theorem B6q(e:Ev)(h:X6 e=0)(r:List UInt8):O4 (M5 e++r) false=⟨e,r,false⟩:=by
 obtain⟨h1,h2,h3,h4,h5,h6⟩:=A3o e h;obtain⟨g1,g2,g3,g4⟩:=B6p e h6;obtain⟨k,t,i,f,n,x⟩:=e;simp only at *;unfold O4 M5;simp only[yk];rw[A2X _ (by omega) (by omega),A2Y,A2Z,A2X _ (by omega) (by omega),A2Y,A2Z,A2X _ (by omega) (by omega),A2Y,A2Z];rw[zf (by omega)];by_cases hk:k=1\/k=2
 ·obtain⟨rfl,rfl⟩:=g4 hk;obtain rfl:=g3 (by omega);rw[zj hk,zj hk];rfl
 ·rw[zf hk,zf hk];simp only[yk];rw[A2X _ (by omega) (by omega),A2Y,A2Z];by_cases hk4:k=4
  ·obtain rfl:=g2 hk4;rw[zj hk4,zj hk4];simp only[yk];rw[A2X _ (by omega) (by omega),A2Y,A2Z];simp only[wb];rw[A5c rfl,A9Z rfl,B0p rfl]
  ·obtain rfl:=g3 hk4;rw[zf hk4,zf hk4];rw[A2X _ (by omega) (by omega),A2Y,A2Z];congr 2
   omega
theorem B5N:∀(l:List Ev) (r:List UInt8),(∀e∈l,X6 e=0)->A2V l.length (l.flatMap M5++r) false=⟨l,r,false⟩
 | [],r,_=>rfl
 | e::l,r,h=>by
  simp only[yd,A2V,xj,yk,xi,if_false];rw[B6q e (h e (by simp)),B5N l r fun x hx=>h x (by simp[hx])]
theorem A1U(b:Bt)(h:I2 b=0):(O1 b).length<=379:=by
 obtain⟨h1,h2,h3,h4⟩:=A0t h;have:∀l:List Ev,(∀e∈l,X6 e=0)->(l.flatMap M5).length<=47*l.length:=fun l=>by
  induction l with
  | nil=>intro _; simp
  | cons e l ih =>
   intro hl;have a:=A6J e (hl e (by simp));have b:=ih fun x hx=>hl x (by simp[hx]);simp only[xj,yl,yd];omega
 have:=this b.events h4;unfold O1;simp only[yl,P5];omega
theorem A3q(b:Bt)(h:I2 b=0)(s:List UInt8):A8 (C5 b++s)=⟨b,(C5 b).length,0⟩:=by
 have hl:=A1U b h;obtain⟨h1,h2,h3,h4⟩:=A0t h;have e1:J3 (D6 (C5 b++s) 2)=(O1 b).length:=by unfold C5; rw[yk,A2X _ (by omega) (by omega)]
 have e2:A7 (C5 b++s) 2=O1 b++s:=by unfold C5; rw[yk,A2Y]
 have e3:sh1 (C5 b++s) false 2=false:=by unfold C5; rw[yk,A2Z]
 have e4:I0 (C5 b++s)=O1 b:=by unfold I0; rw[e1,e2,wb,A5c rfl]
 have e5:A3B (C5 b++s)=false:=by unfold A3B; rw[e1,e2,e3,wb,B0p rfl]
 have e6:A2W (O1 b)=b.number:=by unfold A2W O1; rw[yk,A2X _ (by omega) (by omega)]
 have e7:q8 (O1 b)=⟨b.events,[],false⟩:=by
  unfold q8 O1;rw[yk,A2Y,A2Z,A2X _ (by omega) (by omega),A2Y,A2Z,wb];have:=B5N b.events [] h4;rw[xr] at this;exact this
 unfold A8;rw[zf (by rw[e5]; simp),e4,e7,e6,zf (by simp),zf (by simp[h]),e1];simp only[C5,yl,P5];congr 1
 omega
/-! ### What is decoded is encoded as it was -/
theorem N6{s:List UInt8}{sh:Bool}{k:Nat}(h:sh1 s sh k=false):sh=false/\D6 s k++A7 s k=s/\(D6 s k).length=k:=by
 simp only[sh1,we,decide_eq_false_iff_not] at h;obtain⟨h1,h2⟩:=h;refine⟨h1,?_,?_⟩
 ·simp[D6,A7,h2]
 ·simp[D6,h2]; omega
theorem c7{s:List UInt8}{sh:Bool}{k:Nat}(h:sh1 s sh k=false):c6 (J3 (D6 s k)) k++A7 s k=s:=by
 obtain⟨_,h2,h3⟩:=N6 h;have:=B2U (D6 s k);rw[h3] at this;rw[this,h2]
theorem B2V(s:List UInt8)(sh:Bool)(h:(O4 s sh).sh=false):sh=false/\M5 (O4 s sh).e++(O4 s sh).s=s:=by
 unfold O4 at h ⊢;simp only at h ⊢;split at h
 ·cases h
 ·rename_i hk;rw[zf hk];split at h
  ·rename_i hk2;rw[zj hk2];simp only at h ⊢;have a3:=c7 h;have h2:=(N6 h).1;have a2:=c7 h2;have h1:=(N6 h2).1;have a1:=c7 h1;refine⟨(N6 h1).1,?_⟩;simp only[M5,zj hk2,xr,yk,a3,a2,a1]
  ·rename_i hk2;rw[zf hk2];split at h
   ·rename_i hk4;rw[zj hk4];simp only at h ⊢;obtain⟨h5,b1,b2⟩:=N6 h;have a5:=c7 h5;have h4:=(N6 h5).1;have a4:=c7 h4;have h3:=(N6 h4).1;have a3:=c7 h3;have h2:=(N6 h3).1;have a2:=c7 h2;have h1:=(N6 h2).1;have a1:=c7 h1;refine⟨(N6 h1).1,?_⟩;have hn:=A0B (D6 (A7 (A7 (A7 (A7 s 1) 1) 2) 1) 1);simp only[M5,zf hk2,zj hk4,yk,b2];rw[Int.toNat_of_nonneg hn.1,b1,a5,a4,a3,a2,a1]
   ·rename_i hk4;rw[zf hk4];simp only at h ⊢;have a5:=c7 h;have h4:=(N6 h).1;have a4:=c7 h4;have h3:=(N6 h4).1;have a3:=c7 h3;have h2:=(N6 h3).1;have a2:=c7 h2;have h1:=(N6 h2).1;have a1:=c7 h1;refine⟨(N6 h1).1,?_⟩;simp only[M5,zf hk2,zf hk4,yk,Int.sub_add_cancel,a5,a4,a3,a2,a1]
theorem A9a:∀(k:Nat) (s:List UInt8) (sh:Bool),(A2V k s sh).sh=false->sh=false/\(A2V k s sh).l.flatMap M5++(A2V k s sh).s=s/\(A2V k s sh).l.length=k
 | 0,s,sh,h=>⟨h,rfl,rfl⟩
 | k+1,s,sh,h=>by
  cases sh with
  | true=>simp[A2V] at h
  | false =>
   simp only[A2V,xi,if_false] at h ⊢;obtain⟨h1,h2,h3⟩:=A9a k _ _ h;obtain⟨_,g2⟩:=B2V s false h1;refine⟨trivial,?_,by simp[h3]⟩;simp only[xj,yk,h2,g2]
theorem B6r(b:List UInt8)(h:(q8 b).sh=false)(hs:(q8 b).s=[]):O1 ⟨A2W b,(q8 b).l⟩=b:=by
 unfold q8 at h hs ⊢;obtain⟨h1,h2,h3⟩:=A9a _ _ _ h;have a2:=c7 h1;have h0:=(N6 h1).1;have a1:=c7 h0;have hn:=A0B (D6 (A7 b 2) 1);unfold O1 A2W;simp only[h3];rw[Int.toNat_of_nonneg hn.1];rw[hs,xr] at h2;rw[h2,yk,a2,a1]
theorem A1V(s:List UInt8)(h:(A8 s).e=0):I2 (A8 s).b=0/\(A8 s).n=(C5 (A8 s).b).length/\C5 (A8 s).b++s.drop (C5 (A8 s).b).length=s:=by
 unfold A8 at h ⊢;split at h
 ·simp at h
 ·rename_i c1;rw[zf c1];split at h
  ·simp at h
  ·rename_i c2;rw[zf c2];split at h
   ·rename_i c3; exact (c3 h).elim
   ·rename_i c3;rw[zf c3];simp only at h ⊢;have c3':I2 ⟨A2W (I0 s),(q8 (I0 s)).l⟩=0:=zl c3;have d1:(q8 (I0 s)).sh=false:=(by simpa using fun h=>c2 (.inl h));have d2:(q8 (I0 s)).s=[]:=zl fun h=>c2 (.inr h);have d3:A3B s=false:=(by simpa using c1);have hB:=B6r _ d1 d2;unfold A3B at d3;obtain⟨e1,e2,e3⟩:=N6 d3;have a1:=c7 e1;have hn:=A0B (D6 s 2);have hlen:((I0 s).length:Int)=J3 (D6 s 2):=(by unfold I0; rw[e3]; omega);have hby:C5 ⟨A2W (I0 s),(q8 (I0 s)).l⟩=c6 (J3 (D6 s 2)) 2++I0 s:=(by unfold C5; rw[hB,hlen]);have hall:c6 (J3 (D6 s 2)) 2++I0 s++A7 (A7 s 2) (J3 (D6 s 2)).toNat=s:=by
     rw[yk,I0,e2,a1]
    refine⟨c3',?_,?_⟩
    ·rw[hby]; simp; omega
    ·rw[hby];have key:∀X Y Z:List UInt8,X++Y=Z->X++Z.drop X.length=Z:=fun X Y Z h=>by subst h; rw[sg]
     exact key _ _ _ hall
end Go.Am
namespace Go.Am
open Go Go.Proofs Go.RowKit
end Go.Am
namespace Go.Am
open Go Go.RowKit
theorem X7{s:List UInt8}(h:(A8 s).e=0):3<=(A8 s).n.toNat/\(A8 s).n.toNat<=s.length/\(A8 s).n=((A8 s).n.toNat:Int)/\(A8 s).n.toNat<=400:=by
 obtain⟨h1,h2,h3⟩:=A1V s h;have hl:=congrArg List.length h3;have hb:=A1U _ h1;have h4:3<=(C5 (A8 s).b).length:=by simp[C5,O1]; omega
 have h5:(C5 (A8 s).b).length<=400:=by simp[C5]; omega
 simp only[yl,zx] at hl;omega
theorem A3C{s:List UInt8}(h:(A8 s).e=0)(x:List UInt8):A8 (s++x)=A8 s:=by
 obtain⟨h1,h2,h3⟩:=A1V s h;have e:s++x=C5 (A8 s).b++(s.drop (C5 (A8 s).b).length++x):=by
  rw[←yk,h3]
 rw[e,A3q _ h1,←h2];have:=h;cases hd:A8 s with
 | mk b n e=>rw[hd] at this; simp only at this; subst this; rfl
theorem A6K{s:List UInt8}{k:Nat}(h:(A8 s).e=0)(hk:(A8 s).n.toNat<=k):A8 (s.take k)=A8 s:=by
 obtain⟨h1,h2,h3⟩:=A1V s h;have hn:(A8 s).n.toNat=(C5 (A8 s).b).length:=by omega
 have e:s.take k=C5 (A8 s).b++(s.drop (C5 (A8 s).b).length).take (k - (C5 (A8 s).b).length):=by
  conv=>lhs; rw[←h3]
  rw[List.take_append,zq (by omega)]
 rw[e,A3q _ h1,←h2];have:=h;cases hd:A8 s with
 | mk b n e=>rw[hd] at this; simp only at this; subst this; rfl
structure C68 where
 bs:List Bt
 ends:List Nat
 last:Nat
 e:Int
def C6(s:List UInt8)(a:Nat):C68 :=
 if h:(A8 (s.drop a)).e=0 then
  ⟨(A8 (s.drop a)).b::(C6 s (a+(A8 (s.drop a)).n.toNat)).bs,a::(C6 s (a+(A8 (s.drop a)).n.toNat)).ends,(C6 s (a+(A8 (s.drop a)).n.toNat)).last,(C6 s (a+(A8 (s.drop a)).n.toNat)).e⟩
 else ⟨[],[a],a,(A8 (s.drop a)).e⟩
termination_by s.length - a
decreasing_by
 all_goals
  have:=X7 h;simp at this;omega
theorem Z0{s:List UInt8}{a:Nat}(h:(A8 (s.drop a)).e=0):C6 s a =
  ⟨(A8 (s.drop a)).b::(C6 s (a+(A8 (s.drop a)).n.toNat)).bs,a::(C6 s (a+(A8 (s.drop a)).n.toNat)).ends,(C6 s (a+(A8 (s.drop a)).n.toNat)).last,(C6 s (a+(A8 (s.drop a)).n.toNat)).e⟩:=by
 rw[C6,dif_pos h]
theorem P1{s:List UInt8}{a:Nat}(h:¬(A8 (s.drop a)).e=0):C6 s a=⟨[],[a],a,(A8 (s.drop a)).e⟩:=by
 rw[C6,dif_neg h]
theorem A2a{s:List UInt8}{p:Nat->Prop}(stop:∀a,¬(A8 (s.drop a)).e=0->p a)(step:∀a,(A8 (s.drop a)).e=0->a+(A8 (s.drop a)).n.toNat<=s.length->p (a+(A8 (s.drop a)).n.toNat)->p a):∀(m a:Nat),s.length - a<m->p a
 | 0,a,h=>by omega
 | m+1,a,h=>by
  by_cases hd:(A8 (s.drop a)).e=0
  ·have:=X7 hd;simp at this;exact step a hd (by omega) (A2a stop step m _ (by omega))
  ·exact stop a hd
theorem M9(s:List UInt8)(a:Nat)(ha:a<=s.length):a<=(C6 s a).last/\(C6 s a).last<=s.length/\(C6 s a).ends.getLast?=some (C6 s a).last/\(∀x∈(C6 s a).ends,a<=x/\x<=(C6 s a).last)/\(C6 s a).e≠0/\(C6 s a).ends.length=(C6 s a).bs.length+1/\(∀b∈(C6 s a).bs,I2 b=0):=by
 refine A2a (s:=s) (p:=fun a=>a<=s.length->a<=(C6 s a).last/\(C6 s a).last<=s.length/\(C6 s a).ends.getLast?=some (C6 s a).last/\(∀x∈(C6 s a).ends,a<=x/\x<=(C6 s a).last)/\(C6 s a).e≠0/\(C6 s a).ends.length=(C6 s a).bs.length+1/\(∀b∈(C6 s a).bs,I2 b=0)) (fun a hd ha=>?_) (fun a hd hle ih ha=>?_) (s.length - a+1) a (by omega) ha
 ·rw[P1 hd];exact⟨ya _,ha,rfl,by simp,hd,rfl,by simp⟩
 ·obtain⟨i1,i2,i3,i4,i5,i6,i7⟩:=ih hle;rw[Z0 hd];refine⟨by simp only; omega,i2,?_,?_,i5,by simp[i6],?_⟩
  ·simp only[List.getLast?_cons,i3]; rfl
  ·intro x hx;simp only[zh] at hx;rcases hx with rfl|hx
   ·exact⟨ya _,by simp only; omega⟩
   ·have:=i4 x hx; exact⟨by omega,this.2⟩
  ·intro b hb;simp only[zh] at hb;rcases hb with rfl|hb
   ·exact (A1V _ hd).1
   ·exact i7 b hb
theorem B2W(s:List UInt8)(k:Nat)(hk:k<=s.length)(a:Nat)(ha:a<=k):(C6 (s.take k) a).last=k↔k∈(C6 s a).ends:=by
 refine A2a (s:=s) (p:=fun a=>a<=k->((C6 (s.take k) a).last=k↔k∈(C6 s a).ends)) (fun a hd ha=>?_) (fun a hd hle ih ha=>?_) (s.length - a+1) a (by omega) ha
 ·have hd':¬(A8 ((s.take k).drop a)).e=0:=fun h=>by
   have e:(s.take k).drop a++s.drop k=s.drop a:=by
    rw[show s.drop k=(s.drop a).drop (k - a) by rw[tn]; congr 1; omega,ul];exact yx _ _
   have:=A3C h (s.drop k);rw[e] at this;rw[this] at hd;exact hd h
  rw[P1 hd,P1 hd'];simp; omega
 ·have hadv:=X7 hd;by_cases hk2:a+(A8 (s.drop a)).n.toNat<=k
  ·have e:A8 ((s.take k).drop a)=A8 (s.drop a):=by
    rw[ul]; exact A6K hd (by omega)
   have hd':(A8 ((s.take k).drop a)).e=0:=(by rw[e]; exact hd);rw[Z0 hd,Z0 hd',e];simp only;rw[ih hk2];simp; omega
  ·have hd':¬(A8 ((s.take k).drop a)).e=0:=fun h=>by
    have e:(s.take k).drop a++s.drop k=s.drop a:=by
     rw[show s.drop k=(s.drop a).drop (k - a) by rw[tn]; congr 1; omega,ul];exact yx _ _
    have h1:=A3C h (s.drop k);rw[e] at h1;have h2:=X7 h;rw[h1] at hk2;simp at h2;omega
   rw[Z0 hd,P1 hd'];have:=(M9 s _ hle).2.2.2.1;simp only[zh];constructor
   ·intro h; exact .inl h.symm
   ·rintro (h|h)
    ·exact h.symm
    ·have:=this k h; omega
end Go.Am
namespace Go.Am
open Go Go.Proofs Go.RowKit
def eN(l:List Nat):List AV:=l.map fun (n:Nat)=>AV.int .i64 (n:Int)
@[simp] theorem B5O (l:List Nat):F9 (eN l)=true:=E7 (fun _=>rfl) l
@[simp] theorem A7j (S:Nat->Prop) (l:List Nat):F3 S (eN l):=B3 _ (B5O l)
@[simp] theorem C69 (l:List Nat):(eN l).length=l.length:=by simp[eN]
@[simp] theorem A16 (l:List (List UInt8)):F9 (l.map AV.str)=true:=E7 (fun _=>rfl) l
@[simp] theorem C3j (S:Nat->Prop) (l:List (List UInt8)):F3 S (l.map AV.str):=B3 _ (A16 l)
@[simp] theorem C55 (R:Rn) (S:Nat->Prop) (l:List (List UInt8)):N8 R S (l.map AV.str) (l.map AV.str):=C2 rfl (A16 l)
structure CtX where
 a:Nat
 bs:List Bt
 pre:List Nat
theorem B49(s:List UInt8)(id:Nat)(hs:s.length<=400):A2 Tryz.prog 158 [.str s] [] id (.tup [.sl ((C6 s 0).bs.map Y9),.sl (eN (C6 s 0).ends),.int .i64 (C6 s 0).e]) []:=by
 refine w158.e.1 fun E hP hR hl hid=>?_;simp[w158];refine D0 (X:=CtX) (fun x=>⟨[(0,true,.str s),(5,true,.bsl E.n0 0 x.bs.length),(6,true,.bsl (E.n0+1) 0 (x.pre.length+1)),(7,true,.int .i64 x.a)],
   [(E.n0,some ⟨x.bs.map Y9,.agg [.int .i64 0,.nils],false,false⟩),(E.n0+1,some ⟨eN (x.pre++[x.a]),.int .i64 0,false,false⟩)],2⟩)
  (fun x=>x.a<=s.length/\x.bs.length<=x.a/\x.pre.length<=x.a/\x.bs++(C6 s x.a).bs=(C6 s 0).bs/\x.pre++(C6 s x.a).ends=(C6 s 0).ends/\(C6 s x.a).e=(C6 s 0).e) (fun x=>s.length - x.a) ⟨0,[],[]⟩ ?_ ⟨by simp,by simp,by simp,rfl,rfl,rfl⟩ ?_
 ·refine E4.trans (E4.voidSlot 5 (x:=.nils) (y:=.bsl (E.n0+7168) 0 0) (by simp) .nils (.agg [.int .i64 0,.nils])) ?_;refine yV [(E.n0,E.n0+7168),(E.n0+1,E.n0+4096)] (by simp[eN]) fun hrn=>⟨?_,?_,?_,?_,?_⟩<;>(try simp[eN])
 ·rintro⟨a,bs,pre⟩ ⟨ha,hb,hpl,hf1,hf2,hf3⟩ p hp;simp only at ha hb hpl hf1 hf2 hf3 hp;have hD:=B6o (s.drop a);simp only[Y9] at hD;refine A3 4000 ?_;simp;refine⟨ha,?_⟩;(refine yH rfl (hD _ (by simp; omega)) ?_; simp);refine E5 (fun h=>?_) (fun h=>?_)
  ·simp;have h':¬(A8 (s.drop a)).e=0:=(by simpa using h);rw[P1 h'] at hf1 hf2 hf3;simp only[xr] at hf1 hf2 hf3;rw[←hf1,←hf2,←hf3] at hR;have hrn:H5 []:=(by simp[A4 hid]);rw[hR];refine L6 (by simp<;>rfl) (by simp[A4 hid]<;>exact⟨rfl,rfl⟩) [] hrn ⟨?_,?_,?_,?_,?_,?_⟩<;>(try simp[A4 hid]);exact⟨zq (by simp),by rw[zq (by simp)]; exact A7j _ _⟩
  ·simp;have h':(A8 (s.drop a)).e=0:=(by simpa using h);have hadv:=X7 h';simp only[zx] at hadv;obtain⟨n,hn⟩:∃n:Nat,(A8 (s.drop a)).n=n:=⟨_,hadv.2.2.1⟩;rw[hn] at hadv;simp only[wb] at hadv;have hw:IntKind.i64.wrap ((a:Int)+n)=((a+n:Nat):Int):=A5 (by omega);rw[Z0 h',hn] at hf1 hf2 hf3;simp only[wb] at hf1 hf2 hf3;simp[hn,hw];refine⟨⟨by omega,by omega⟩,⟨by omega,by omega⟩,hp _ ⟨a+n,bs++[(A8 (s.drop a)).b],pre++[a]⟩ ⟨(by first|omega|(simp; omega)),(by simp; omega),(by simp; omega),by simpa using hf1,by simpa using hf2,hf3⟩ (by first|omega|(simp; omega)) ?_⟩;refine yV [(E.n0,E.n0+21506),(E.n0+1,E.n0+25602)] (by simp) fun hrn=>⟨?_,?_,?_,?_,?_⟩<;>(try simp);exact⟨C2 (by simp[Y9]) (C4 (A4t bs) (by simp)),C2 (by simp[eN]) (C4 (B5O _) (by simp))⟩
def B6(l:List (List UInt8)):List UInt8:=l.getLast?.getD []
@[simp] def bxS (l:List (List UInt8)):Bx:=⟨l.map AV.str,.str [],false,false⟩
theorem o7{l:List (List UInt8)}(h:l≠[]):l[l.length - 1]?=some (B6 l):=by
 unfold B6;rw[sj];rw[zc (by have:=xw.2 h; omega)];rfl
theorem C1f(l:List (List UInt8))(syn:Int)(id:Nat)(hl8:l.length<=1000000):A2 Tryz.prog 94 [.agg [.sl (l.map AV.str),.int .i64 syn]] [] id (.str (B6 l)) []:=by
 refine w94.e.1 fun E hP hR hl hid=>?_;simp[w94];refine E5 (fun h=>?_) (fun h=>?_)
 ·simp;have h':l=[]:=by simpa using h
  subst h';exact yP hR (h1:=by simp; rfl)
 ·simp;have h':l≠[]:=by simpa using h
  have hg:=o7 h';have hp:=xw.2 h';have hw:IntKind.i64.wrap ((l.length:Int) - 1)=((l.length - 1:Nat):Int):=by rw[A5 (by omega)]; omega
  simp[hw,hg];refine⟨by omega,?_⟩;exact yP hR
theorem A9b(j:Nat)(l:List (List UInt8))(syn:Int)(id:Nat)(hl8:l.length<=1000000):A2 Tryz.prog 94 [.agg [.bsl j 0 l.length,.int .i64 syn]] [(j,bxS l)] id (.str (B6 l)) []:=by
 simp only[bxS];refine w94.e.1 fun E hP hR hl hid=>?_;simp[w94];have hj:=hl (j,_) (za ..);simp only at hj;have j1:=lf hj;simp[j1];refine E5 (fun h=>?_) (fun h=>?_)
 ·simp[j1];have h':l=[]:=by simpa using h
  subst h';refine yE hR [] (by simp[j1,A4 hid]) fun hrn=>⟨?_,?_,?_,?_,?_,?_⟩<;>(try simp[j1,A4 hid]);rfl
 ·simp[j1];have h':l≠[]:=by simpa using h
  have hg:=o7 h';have hp:=xw.2 h';have hw:IntKind.i64.wrap ((l.length:Int) - 1)=((l.length - 1:Nat):Int):=by rw[A5 (by omega)]; omega
  simp[hw,hg,j1];refine⟨by omega,?_⟩;refine yE hR [] (by simp[j1,A4 hid]) fun hrn=>⟨?_,?_,?_,?_,?_,?_⟩<;>(try simp[j1,A4 hid])
/-! ### Looking through a slice -/
def A2r{α:Type}(p:α->Bool):List α->Nat->Int
 | [],_=>-1
 | x::l,i=>if p x then (i:Int) else A2r p l (i+1)
theorem A5d{α:Type}(p:α->Bool):∀(l:List α) (i:Nat),decide (0<=A2r p l i)=l.any p
 | [],i=>by simp[A2r]
 | x::l,i=>by
  simp only[A2r,tz];by_cases hx:p x=true
  ·simp[hx]
  ·simp[hx,A5d p l (i+1)]
theorem C1g(s:List UInt8)(id:Nat):A2 Tryz.prog 157 [.str s] [] id (.bool (decide (400<s.length))) []:=by
 refine w157.e.1 fun E hP hR hl hid=>?_;simp[w157];exact yP hR (h1:=by simp; omega)
theorem B0q(l:List (List UInt8))(id:Nat)(hl8:l.length<=8):A2 Tryz.prog 222 [.sl (l.map AV.str),.fn 157 []] [] id (.int .i64 (A2r (fun s=>decide (400<s.length)) l 0)) []:=by
 refine w222.e.1 fun E hP hR hl hid=>?_;simp[w222];refine D0 (X:=Nat) (fun i=>⟨[(0,true,.sl (l.map AV.str)),(1,true,.fn 157 []),(7,true,.int .i64 l.length),(8,true,.int .i64 i)],[],0⟩) (fun i=>i<=l.length/\A2r (fun s=>decide (400<s.length)) (l.drop i) i=A2r (fun s=>decide (400<s.length)) l 0) (fun i=>l.length - i) 0 ?_ ⟨by omega,rfl⟩ ?_
 ·refine yV [] (by simp) fun hrn=>⟨?_,?_,?_,?_,?_⟩<;>(try simp)
 ·rintro i ⟨hi,hf⟩ p hp;refine A3 4000 ?_;simp;refine E5 (fun h=>?_) (fun h=>?_)
  ·have h:=zr h;obtain⟨x,hx,hd⟩:=B2 h;rw[hd] at hf;simp only[A2r] at hf;have hi1:IntKind.i64.wrap ((i:Int)+1)=((i+1:Nat):Int):=A5 (by omega);simp[hx];refine⟨h,?_⟩;refine L5 hP rfl rfl (C1g x _) (by simp) (by simp<;>rfl) ?_;refine A3 4000 ?_;simp;refine E5 (fun h1=>?_) (fun h1=>?_)
   ·simp;rw[zj h1] at hf;exact yP hR (h1:=by simp; exact hf)
   ·simp;rw[zf (by simpa using h1)] at hf;refine hp _ (i+1) ⟨h,hf⟩ (by omega) ?_;refine yV [] (by simp[hi1]) fun hrn=>⟨?_,?_,?_,?_,?_⟩<;>(try simp[hi1])
  ·have h:=zp h;simp;rw[zn (by omega)] at hf;exact yP hR (h1:=by simp; exact hf)
theorem A6e(l:List (List UInt8))(id:Nat)(hl8:l.length<=8):A2 Tryz.prog 156 [.sl (l.map AV.str),.fn 157 []] [] id (.bool (l.any fun s=>decide (400<s.length))) []:=by
 refine w156.e.1 fun E hP hR hl hid=>?_;simp[w156];(refine yH rfl (B0q l _ hl8) ?_; simp);exact yP hR (h1:=by simp; rw[A5d])
theorem B8r(l:List Nat)(v:Int)(id:Nat)(hl8:l.length<=1000000):A2 Tryz.prog 224 [.sl (eN l),.int .i64 v] [] id (.int .i64 (A2r (fun (x:Nat)=>v==(x:Int)) l 0)) []:=by
 unfold eN;refine w224.e.1 fun E hP hR hl hid=>?_;simp[w224];refine D0 (X:=Nat) (fun i=>⟨[(0,true,.sl (l.map fun (n:Nat)=>AV.int .i64 (n:Int))),(1,true,.int .i64 v),(7,true,.int .i64 l.length),(8,true,.int .i64 i)],[],0⟩) (fun i=>i<=l.length/\A2r (fun (x:Nat)=>v==(x:Int)) (l.drop i) i=A2r (fun (x:Nat)=>v==(x:Int)) l 0) (fun i=>l.length - i) 0 ?_ ⟨by omega,rfl⟩ ?_
 ·refine yV [] (by simp) fun hrn=>⟨?_,?_,?_,?_,?_⟩<;>(try simp);all_goals exact A7j _ _
 ·rintro i ⟨hi,hf⟩ p hp;refine A3 4000 ?_;simp;refine E5 (fun h=>?_) (fun h=>?_)
  ·have h:=zr h;obtain⟨x,hx,hd⟩:=B2 h;rw[hd] at hf;simp only[A2r] at hf;have hi1:IntKind.i64.wrap ((i:Int)+1)=((i+1:Nat):Int):=A5 (by omega);simp[hx];refine⟨h,?_⟩;refine E5 (fun h1=>?_) (fun h1=>?_)
   ·simp;rw[zj h1] at hf;exact yP hR (h1:=by simp; exact hf)
   ·simp;rw[zf (by simpa using h1)] at hf;refine hp _ (i+1) ⟨h,hf⟩ (by omega) ?_;refine yV [] (by simp[hi1]) fun hrn=>⟨?_,?_,?_,?_,?_⟩<;>(try simp[hi1]);all_goals exact A7j _ _
  ·have h:=zp h;simp;rw[zn (by omega)] at hf;exact yP hR (h1:=by simp; exact hf)
theorem B2X(l:List Nat)(v:Int)(id:Nat)(hl8:l.length<=1000000):A2 Tryz.prog 159 [.sl (eN l),.int .i64 v] [] id (.bool (l.any fun (x:Nat)=>v==(x:Int))) []:=by
 refine w159.e.1 fun E hP hR hl hid=>?_;simp[w159];(refine yH rfl (B8r l v _ hl8) ?_; simp);exact yP hR (h1:=by simp; rw[A5d])
structure Dk where
 seg:List (List UInt8)
 syn:Int
def eDk(d:Dk):AV:=.agg [.sl (d.seg.map AV.str),.int .i64 d.syn]
structure SgS where
 e:Int
 ends:List Nat
def Z5:List (List UInt8)->List Nat->SgS
 | [],ends=>⟨0,ends⟩
 | s::r,_=>if (C6 s 0).e≠5 then ⟨(C6 s 0).e,[]⟩ else if r≠[]/\(C6 s 0).last<s.length then ⟨4,[]⟩ else Z5 r (C6 s 0).ends
def F2(d:Dk):Int :=
 if 8<d.seg.length\/(d.seg.any fun s=>decide (400<s.length))=true then 2
 else if (Z5 d.seg [0]).e≠0 then (Z5 d.seg [0]).e
 else if ((Z5 d.seg [0]).ends.any fun (x:Nat)=>d.syn==(x:Int))=true then 0 else 3
theorem A7k:∀(l:List (List UInt8)) (en:List Nat),en.length<=401->(∀s∈l,s.length<=400)->(Z5 l en).ends.length<=401
 | [],en,h,_=>h
 | s::r,en,h,hl=>by
  have hf:=(M9 s 0 (by omega)).2.2.2.2.2.1;have hb:(C6 s 0).bs.length<=s.length:=by
   have:=A2a (s:=s) (p:=fun a=>a<=s.length->(C6 s a).bs.length<=s.length - a) (fun a hd ha=>by rw[P1 hd]; simp) (fun a hd hle ih ha=>by
    have:=ih hle;have:=X7 hd;rw[Z0 hd]; simp only[yd]; omega) (s.length+1) 0 (by omega) (by omega)
   omega
  have:=hl s (by simp);simp only[Z5];split
  ·simp
  ·split
   ·simp
   ·exact A7k r _ (by omega) fun x hx=>hl x (by simp[hx])
theorem A4u(s:List UInt8):(C6 s 0).ends[(C6 s 0).ends.length - 1]?=some (C6 s 0).last/\1<=(C6 s 0).ends.length/\(C6 s 0).ends.length<=s.length+1:=by
 have hf:=M9 s 0 (by omega);have h1:=hf.2.2.1;rw[sj] at h1;have hb:(C6 s 0).bs.length<=s.length:=by
  have:=A2a (s:=s) (p:=fun a=>a<=s.length->(C6 s a).bs.length<=s.length - a) (fun a hd ha=>by rw[P1 hd]; simp) (fun a hd hle ih ha=>by
   have:=ih hle;have:=X7 hd;rw[Z0 hd]; simp only[yd]; omega) (s.length+1) 0 (by omega) (by omega)
  omega
 exact⟨h1,by omega,by omega⟩
theorem A5e(d:Dk)(id:Nat):A2 Tryz.prog 91 [eDk d] [] id (.int .i64 (F2 d)) []:=by
 unfold eDk;refine w91.e.1 fun E hP hR hl hid=>?_;simp[w91];(refine I3 hP (by simp) rfl (fun hc=>⟨A6e d.seg _ (by revert hc; simp; omega),by revert hc; simp; try grind,by simp⟩) ?_; refine A3 4000 ?_; simp);refine E5 (fun h=>?_) (fun h=>?_)
 ·simp;have h':8<d.seg.length\/(d.seg.any fun s=>decide (400<s.length))=true:=by
   simp at h ⊢; rcases h with h|h
   ·exact .inl (by omega)
   ·exact .inr h
  have hv:F2 d=2:=by unfold F2; rw[zj h']
  rw[hv] at hR;exact yP hR
 ·have h':¬(8<d.seg.length\/(d.seg.any fun s=>decide (400<s.length))=true):=by
   simp at h ⊢; exact⟨by omega,h.2⟩
  have h8:d.seg.length<=8:=by omega
  have hss:∀s∈d.seg,s.length<=400:=fun s hs=>by
   simp at h'; exact h'.2 s hs
  have hv:F2 d=if (Z5 d.seg [0]).e≠0 then (Z5 d.seg [0]).e else if ((Z5 d.seg [0]).ends.any fun (x:Nat)=>d.syn==(x:Int))=true then 0 else 3:=by unfold F2; rw[zf h']
  rw[hv] at hR;have hen:=A7k d.seg [0] (by simp) hss;simp;refine D0 (X:=Nat×List Nat) (fun x=>⟨[(1,true,.ptr E.n0 0 0),(3,true,.sl (eN x.2)),(20,true,.sl (d.seg.map AV.str)),(21,true,.int .i64 d.seg.length),(22,true,.int .i64 x.1)],[(E.n0,some ⟨[.agg [.sl (d.seg.map AV.str),.int .i64 d.syn]],.agg [.nils,.int .i64 0],false,false⟩)],1⟩)
   (fun x=>x.1<=d.seg.length/\Z5 (d.seg.drop x.1) x.2=Z5 d.seg [0]) (fun x=>d.seg.length - x.1) (0,[0]) ?_ ⟨by simp,rfl⟩ ?_
  ·refine E4.trans (E4.frz 3 (x:=.bsl (E.n0+11264) 0 1) (x':=.sl [.int .i64 0]) (fz:=[(E.n0+11264,⟨[.int .i64 0],.int .i64 0,false,false⟩)]) (by simp) (by simp) (by simp) (by simp)) ?_;refine yV [(E.n0,E.n0)] (by simp[eN]) fun hrn=>⟨?_,?_,?_,?_,?_⟩<;>(try simp[eN]);exact B3 _ rfl
  ·rintro⟨i,ends⟩ ⟨hi,hf⟩ p hp;simp only at hi hf hp;refine A3 4000 ?_;simp;refine E5 (fun h=>?_) (fun h=>?_)
   ·have h:=zr h;obtain⟨x,hx,hd⟩:=B2 h;rw[hd] at hf;simp only[Z5] at hf;have hi1:IntKind.i64.wrap ((i:Int)+1)=((i+1:Nat):Int):=A5 (by omega);have hx4:=hss x (zg hx);obtain⟨g1,g2,g3⟩:=A4u x;simp[hx];refine⟨h,?_⟩;(refine yH rfl (B49 x _ hx4) ?_; simp);refine E5 (fun h1=>?_) (fun h1=>?_)
    ·simp;have h1':(C6 x 0).e≠5:=(by simpa using h1);rw[zj h1'] at hf;rw[←hf,zj (M9 x 0 (by omega)).2.2.2.2.1] at hR;exact yP hR
    ·simp;have h1':¬(C6 x 0).e≠5:=(by simpa using h1);rw[zf h1'] at hf;have hwl:IntKind.i64.wrap ((d.seg.length:Int) - 1)=(d.seg.length:Int) - 1:=A5 (by omega);have hwe:IntKind.i64.wrap (((C6 x 0).ends.length:Int) - 1)=(((C6 x 0).ends.length - 1:Nat):Int):=(by rw[A5 (by omega)]; omega);have hel:(eN (C6 x 0).ends)[(C6 x 0).ends.length - 1]?=some (.int .i64 ((C6 x 0).last:Int)):=(by simp[eN,g1]);simp[hwl,hwe,hel];refine⟨fun hh=>⟨hh,by omega⟩,?_⟩;have hr:d.seg.drop (i+1)≠[]↔(i:Int)<(d.seg.length:Int) - 1:=(by simp; omega);refine E5 (fun h2=>?_) (fun h2=>?_)
     ·simp;have h2':d.seg.drop (i+1)≠[]/\(C6 x 0).last<x.length:=by
       rw[hr]; simpa using h2
      rw[zj h2'] at hf;rw[←hf] at hR;rw[zj (by simp)] at hR;exact yP hR
     ·simp;have h2':¬(d.seg.drop (i+1)≠[]/\(C6 x 0).last<x.length):=by
       rw[hr]; simpa using h2
      rw[zf h2'] at hf;refine hp _ (i+1,(C6 x 0).ends) ⟨h,hf⟩ (by simp only[]; omega) ?_;refine yV [(E.n0,E.n0)] (by simp[hi1]) fun hrn=>⟨?_,?_,?_,?_,?_⟩<;>(try simp[hi1])
   ·have h:=zp h;simp;rw[zn (by omega)] at hf;simp only[Z5] at hf;rw[←hf] at hR hen;simp only[ne_eq,not_true_eq_false,if_false] at hR;(refine yH rfl (B2X ends d.syn _ (by simp only at hen; omega)) ?_; simp);refine E5 (fun h1=>?_) (fun h1=>?_)
    ·simp;have h1':¬(ends.any fun (x:Nat)=>d.syn==(x:Int))=true:=(by simpa using h1);rw[zf h1'] at hR;exact yP hR
    ·simp;have h1':(ends.any fun (x:Nat)=>d.syn==(x:Int))=true:=(by simpa using h1);rw[zj h1'] at hR;exact yP hR
/-! ### The keeper -/
@[simp] def bxK (j n:Nat) (syn:Int):Bx:=⟨[.agg [.bsl j 0 n,.int .i64 syn]],.agg [.nils,.int .i64 0],false,false⟩
theorem B8s(l:List (List UInt8))(id:Nat)(hl8:l.length<=1000000):A2 Tryz.prog 160 [.sl (l.map AV.str)] [] id (.bsl id 0 l.length) [(id,some (bxS l))]:=by
 simp only[bxS];refine A5W w160.hf w160.hc w160.hn w160.hr (by simp[Tryz.ntmps160]) fun E hP hR hl hid=>?_;refine A3 9 ?_;simp[w160];refine B8h (s:=0) (d:=3) (e:=4) (xs:=l.map AV.str) (by simp) (by decide) (fun hx=>?_) ?_
 ·refine A3 10 ?_;simp;have hx:l=[]:=by simpa using hx
  subst hx;refine A33 (E4.voidSlot 2 (x:=.nils) (y:=.bsl (E.n0+4096) 0 0) (by simp) .nils (.str [])) ?_;refine A3 4000 ?_;simp;refine yE hR [(id,E.n0+4096)] (by simp[A4 hid]) fun hrn=>⟨?_,?_,?_,?_,?_,?_⟩<;>(try simp[A4 hid])
 ·refine A3 4000 ?_;simp;refine⟨⟨by omega,by omega⟩,?_⟩;refine yE hR [(id,E.n0+5120)] (by simp[A4 hid]) fun hrn=>⟨?_,?_,?_,?_,?_,?_⟩<;>(try simp[A4 hid])
theorem B4A(l:List (List UInt8))(syn:Int)(id:Nat)(hl8:l.length<=1000000):A2 Tryz.prog 92 [.agg [.sl (l.map AV.str),.int .i64 syn]] [] id (.ptr id 0 0) [(id,some (bxK (id+1) l.length syn)),(id+1,some (bxS l))]:=by
 simp only[bxK,bxS];refine w92.e.1 fun E hP hR hl hid=>?_;simp[w92];(refine yH rfl (B8s l _ hl8) ?_; simp);have hrn:H5 [(id,E.n0+9216),(id+1,E.n0+4096)]:=by simp[A4 hid,A39 hid,A1S hid,A0J hid,A0K hid,o6 hid]
 rw[hR];refine E8 (by simp<;>rfl) [(id,E.n0+9216),(id+1,E.n0+4096)] hrn ⟨?_,?_,?_,?_,?_,?_⟩<;>(try simp[A4 hid,A39 hid,A1S hid,A0J hid,A0K hid,o6 hid])
theorem B5P(k j:Nat)(l:List (List UInt8))(syn:Int)(id:Nat)(hl8:l.length<=8)(h4:(B6 l).length<=400)(hkj:k≠j):A2 Tryz.prog 107 [.ptr k 0 0] [(k,bxK j l.length syn),(j,bxS l)] id (.int .i64 ((C6 (B6 l) 0).last:Int)) []:=by
 simp only[bxK,bxS];refine w107.e.1 fun E hP hR hl hid=>?_;simp[w107];have hk:=hl (k,_) (za ..);simp only at hk;have k1:=lf hk;have hj:=hl (j,_) (zb _ (za ..));simp only at hj;have j1:=lf hj;have hkj':=hkj.symm;(refine yC rfl (A9b j l syn _ (by omega)) ?_; simp[k1,j1,hkj,hkj']);(refine yC rfl (B49 (B6 l) _ h4) ?_; simp[k1,j1,hkj,hkj']);obtain⟨g1,g2,g3⟩:=A4u (B6 l);have hwe:IntKind.i64.wrap (((C6 (B6 l) 0).ends.length:Int) - 1)=(((C6 (B6 l) 0).ends.length - 1:Nat):Int):=by rw[A5 (by omega)]; omega
 have hel:(eN (C6 (B6 l) 0).ends)[(C6 (B6 l) 0).ends.length - 1]?=some (.int .i64 ((C6 (B6 l) 0).last:Int)):=by simp[eN,g1]
 simp[hwe,hel];refine⟨by omega,?_⟩;refine yE hR [] (by simp[k1,j1,hkj,hkj',A4 hid]) fun hrn=>⟨?_,?_,?_,?_,?_,?_⟩<;>(try simp[k1,j1,hkj,hkj',A4 hid])
theorem B5Q(k j:Nat)(l:List (List UInt8))(syn:Int)(id:Nat)(hl8:l.length<=8)(h4:(B6 l).length<=400)(hkj:k≠j):A2 Tryz.prog 152 [.ptr k 0 0] [(k,bxK j l.length syn),(j,bxS l)] id (.bool (decide ((C6 (B6 l) 0).last<(B6 l).length))) []:=by
 have he:=B5P k j l syn;simp only[bxK,bxS] at he ⊢;refine w152.e.1 fun E hP hR hl hid=>?_;simp[w152];have hk:=hl (k,_) (za ..);simp only at hk;have k1:=lf hk;have hj:=hl (j,_) (zb _ (za ..));simp only at hj;have j1:=lf hj;have hkj':=hkj.symm;(refine yC rfl (he _ hl8 h4 hkj) ?_; simp[k1,j1,hkj,hkj']);(refine yC rfl (A9b j l syn _ (by omega)) ?_; simp[k1,j1,hkj,hkj']);refine yE hR [] (by simp[k1,j1,hkj,hkj',A4 hid]) fun hrn=>⟨?_,?_,?_,?_,?_,?_⟩<;>(try simp[k1,j1,hkj,hkj',A4 hid])
def A1E(l:List (List UInt8))(s:List UInt8):List (List UInt8):=l.set (l.length - 1) s
def A2s(l:List (List UInt8))(n:Nat):List (List UInt8):=A1E l ((B6 l).take n)
theorem C1h(k j:Nat)(l:List (List UInt8))(syn:Int)(n:Nat)(id:Nat)(hl8:l.length<=8)(hn:n<=(B6 l).length)(h4:(B6 l).length<=400)(hkj:k≠j):A2 Tryz.prog 93 [.ptr k 0 0,.int .i64 n] [(k,bxK j l.length syn),(j,bxS l)] id (.tup []) [(j,some (bxS (A2s l n)))]:=by
 simp only[bxK,bxS];refine w93.e.1 fun E hP hR hl hid=>?_;simp[w93];have hk:=hl (k,_) (za ..);simp only at hk;have k1:=lf hk;have hj:=hl (j,_) (zb _ (za ..));simp only at hj;have j1:=lf hj;have hkj':=hkj.symm;simp[k1,j1,hkj,hkj'];have hw:IntKind.i64.wrap ((l.length:Int) - 1)=(l.length:Int) - 1:=A5 (by omega);refine E5 (fun h=>?_) (fun h=>?_)
 ·have h':l≠[]:=by
   intro h0;have h:=zr h;rw[hw,h0] at h;simp at h
  have hg:=o7 h';have hp:=xw.2 h';have hw2:IntKind.i64.wrap ((l.length:Int) - 1)=((l.length - 1:Nat):Int):=by rw[hw]; omega
  simp[k1,j1,hkj,hkj',hw2,hg];refine⟨by omega,hn,by omega,?_⟩;refine yE hR [] (by simp[k1,j1,hkj,hkj',A4 hid]) fun hrn=>⟨?_,?_,?_,?_,?_,?_⟩<;>(try simp[k1,j1,hkj,hkj',A4 hid]);all_goals exact C2 (by simp[A2s,A1E,tq]) (by rw[←tq]; exact A16 _)
 ·have h:=zp h;rw[hw] at h;have h':l=[]:=wi (by omega);subst h';have hneg0:IntKind.i64.wrap (-1) = -1:=A5 (by omega);simp[k1,j1,hkj,hkj',hneg0];have hneg:IntKind.i64.wrap (-1) = -1:=A5 (by omega);refine yE hR [] (by simp[k1,j1,hkj,hkj',A2s,A1E,hneg,A4 hid]) fun hrn=>⟨?_,?_,?_,?_,?_,?_⟩<;>(try simp[k1,j1,hkj,hkj',A2s,A1E,hneg,A4 hid])
theorem C1i(k j:Nat)(l:List (List UInt8))(syn:Int)(s:List UInt8)(id:Nat)(hl8:l.length<=8)(hne:l≠[])(hs:(B6 l).length+s.length<=400)(hkj:k≠j):A2 Tryz.prog 153 [.ptr k 0 0,.str s] [(k,bxK j l.length syn),(j,bxS l)] id (.bool true) [(j,some (bxS (A1E l (B6 l++s))))]:=by
 simp only[bxK,bxS];refine w153.e.1 fun E hP hR hl hid=>?_;simp[w153];have hk:=hl (k,_) (za ..);simp only at hk;have k1:=lf hk;have hj:=hl (j,_) (zb _ (za ..));simp only at hj;have j1:=lf hj;have hkj':=hkj.symm;have hg:=o7 hne;have hp:=xw.2 hne;have hw2:IntKind.i64.wrap ((l.length:Int) - 1)=((l.length - 1:Nat):Int):=by rw[A5 (by omega)]; omega
 have hw3:IntKind.i64.wrap (((B6 l).length:Int)+s.length)=(B6 l).length+s.length:=A5 (by omega);simp[k1,j1,hkj,hkj',hw2,hg,hw3,hp];refine⟨by omega,?_⟩;refine A9 (by simp; omega) ?_;simp[k1,j1,hkj,hkj',hw2,hg];(repeat (refine And.intro (by first|assumption|omega|(simp; omega)|(simp_all; done)) ?_));refine yE hR [] (by simp[k1,j1,hkj,hkj',A4 hid]) fun hrn=>⟨?_,?_,?_,?_,?_,?_⟩<;>(try simp[k1,j1,hkj,hkj',A4 hid]);all_goals exact C2 (by simp[A1E,tq]) (by rw[←tq]; exact A16 _)
theorem C1j(k j:Nat)(l:List (List UInt8))(syn:Int)(s:List UInt8)(id:Nat)(hl8:l.length=8)(hs:¬(B6 l).length+s.length<=400)(h4:(B6 l).length<=400)(hs4:s.length<=1000)(hkj:k≠j):A2 Tryz.prog 153 [.ptr k 0 0,.str s] [(k,bxK j l.length syn),(j,bxS l)] id (.bool false) []:=by
 simp only[bxK,bxS];refine w153.e.1 fun E hP hR hl hid=>?_;simp[w153];have hk:=hl (k,_) (za ..);simp only at hk;have k1:=lf hk;have hj:=hl (j,_) (zb _ (za ..));simp only at hj;have j1:=lf hj;have hkj':=hkj.symm;have hne:l≠[]:=by intro h; subst h; simp at hl8
 have hg:=o7 hne;have hp:=xw.2 hne;have hw2:IntKind.i64.wrap ((l.length:Int) - 1)=((l.length - 1:Nat):Int):=by rw[A5 (by omega)]; omega
 have hw3:IntKind.i64.wrap (((B6 l).length:Int)+s.length)=(B6 l).length+s.length:=A5 (by omega);simp[k1,j1,hkj,hkj',hw2,hg,hw3,hp];refine⟨by omega,?_⟩;refine A0 (by simp; omega) ?_;simp;refine A9 (by simp; omega) ?_;simp;refine yE hR [] (by simp[k1,j1,hkj,hkj',A4 hid]) fun hrn=>⟨?_,?_,?_,?_,?_,?_⟩<;>(try simp[k1,j1,hkj,hkj',A4 hid])
theorem C1k(k j:Nat)(l:List (List UInt8))(syn:Int)(s:List UInt8)(id:Nat)(hl8:l.length<8)(hs:l=[]\/¬(B6 l).length+s.length<=400)(h4:(B6 l).length<=400)(hs4:s.length<=1000)(hkj:k≠j):A2 Tryz.prog 153 [.ptr k 0 0,.str s] [(k,bxK j l.length syn),(j,bxS l)] id (.bool true) [(k,some (bxK id (l++[s]).length 0)),(j,none),(id,some (bxS (l++[s])))]:=by
 simp only[bxK,bxS];refine w153.e.1 fun E hP hR hl hid=>?_;simp[w153];have hk:=hl (k,_) (za ..);simp only at hk;have k1:=lf hk;have hj:=hl (j,_) (zb _ (za ..));simp only at hj;have j1:=lf hj;have hkj':=hkj.symm;by_cases hne:l=[]
 ·subst hne;simp[k1,j1,hkj,hkj'];refine yE hR [(id,E.n0+38912)] (by simp[A2q hk.2,A0X hk.2,A2q hj.2,A0X hj.2,k1,j1,hkj,hkj',A4 hid]) fun hrn=>⟨?_,?_,?_,?_,?_,?_⟩<;>(try simp[A2q hk.2,A0X hk.2,A2q hj.2,A0X hj.2,k1,j1,hkj,hkj',A4 hid])
 ·have hs:=hs.resolve_left hne;have hg:=o7 hne;have hp:=xw.2 hne;have hw2:IntKind.i64.wrap ((l.length:Int) - 1)=((l.length - 1:Nat):Int):=by rw[A5 (by omega)]; omega
  have hw3:IntKind.i64.wrap (((B6 l).length:Int)+s.length)=(B6 l).length+s.length:=A5 (by omega);simp[k1,j1,hkj,hkj',hw2,hg,hw3,hp];refine⟨by omega,?_⟩;refine A0 (by simp; omega) ?_;simp;refine A0 (by simp; omega) ?_;simp[k1,j1,hkj,hkj'];(repeat (refine And.intro (by first|assumption|omega|(simp; omega)|(simp_all; done)) ?_));refine yE hR [(id,E.n0+38912)] (by simp[A2q hk.2,A0X hk.2,A2q hj.2,A0X hj.2,k1,j1,hkj,hkj',A4 hid]) fun hrn=>⟨?_,?_,?_,?_,?_,?_⟩<;>(try simp[A2q hk.2,A0X hk.2,A2q hj.2,A0X hj.2,k1,j1,hkj,hkj',A4 hid]);all_goals exact C2 rfl (C4 (A16 l) rfl)
end Go.Am
