/- Parts of the proof: an abstract machine for Go functions, and what functions of the program give back (Rf1, Rf2, Rf3, Rf4, Pl1, Bl1, Dk1, Dk2, Dk3, Dk4). No condition. -/
import Derived.Test.YtphjabjjnncebaaGreatDoorXG
import Derived.Test.YtphjabjjnncebaaGreatDoorXE
set_option maxRecDepth 100000
set_option linter.all false
set_option maxHeartbeats 1000000
namespace Go.Am
open Go Go.Proofs Go.RowKit
@[simp] theorem C4C (b:UInt8):A5L (.int .u8 b.toNat)=b:=by simp[A5L]
def A1t{α:Type}(f:α->α->Bool):List α->List α->Bool
 | [],[]=>true
 | x::a,y::b=>f x y&&A1t f a b
 | _,_=>false
theorem B2F{α:Type}{f:α->α->Bool}:∀{a b:List α},a.length≠b.length->A1t f a b=false
 | [],[],h=>(h rfl).elim
 | [],_::_,_=>rfl
 | _::_,[],_=>rfl
 | x::a,y::b,h=>by simp only[A1t]; rw[B2F (a:=a) (b:=b) (by simpa using h)]; simp
theorem A9Q{α:Type}{f:α->α->Bool}(hf:∀x y,f x y=true↔x=y):∀{a b:List α},A1t f a b=true↔a=b
 | [],[]=>by simp[A1t]
 | [],_::_=>by simp[A1t]
 | _::_,[]=>by simp[A1t]
 | x::a,y::b=>by simp[A1t,hf,A9Q hf (a:=a) (b:=b)]
theorem B2G(b:Bt):(p7 b).pureB=true:=by simp[p7]
@[simp] theorem A4h (l:List Bt):F8 (l.map p7)=true:=E8 B2G l
@[simp] theorem C4D (S:Nat->Prop) (l:List Bt):F2 S (l.map p7):=B4 _ (A4h l)
end Go.Am
namespace Go.Am
open Go Go.RowKit
theorem A9R(c:UInt8)(l:List UInt8):I9 (c::l)=c.toNat*256 ^ l.length+I9 l:=by
 have key:∀(l:List UInt8) (n:Int),l.foldl (fun n c=>256*n+(c.toNat:Int)) n=n*256 ^ l.length+I9 l:=fun l=>by
  induction l with
  | nil=>intro n; simp[I9]
  | cons d l ih =>
   intro n;simp only[List.foldl_cons,I9,List.length_cons];rw[ih,ih (256*0+(d.toNat:Int)),Int.pow_succ];simp only[Int.add_mul,Int.mul_comm 256 n,Int.mul_assoc,Int.mul_comm 256 (256 ^ l.length)];omega
 simp only[I9,List.foldl_cons];rw[key];simp[I9]
theorem B2H(n:Int):((A0f n).toNat:Int)=n % 256:=by
 unfold A0f;simp[UInt8.toNat_ofNat']; omega
theorem C3F(k:Nat):(2:Int) ^ (8*k)=256 ^ k:=by
 rw[Int.pow_mul]; rfl
theorem B3v(n B:Int)(hB:0<B):n % (B*256)=n / B % 256*B+n % B:=by
 have h1:=Int.emod_add_mul_ediv n B;have h2:=Int.emod_add_mul_ediv (n / B) 256;have h3:=Int.emod_nonneg n (show B≠0 by omega);have h4:=Int.emod_lt_of_pos n hB;have h5:0<=n / B % 256:=by omega
 have h6:n / B % 256<=255:=by omega
 have h7:0<=n / B % 256*B:=Int.mul_nonneg h5 (by omega);have h8:n / B % 256*B<=255*B:=Int.mul_le_mul_of_nonneg_right h6 (by omega);have e:n=(n / B % 256*B+n % B)+(B*256)*(n / B / 256):=by
  have h9:B*(n / B)=B*(n / B % 256)+B*256*(n / B / 256):=by
   rw[Int.mul_assoc,←Int.mul_add,h2]
  rw[Int.mul_comm (n / B % 256) B];omega
 have:n % (B*256)=((n / B % 256*B+n % B)+(B*256)*(n / B / 256)) % (B*256):=by rw[←e]
 rw[this,Int.add_mul_emod_self_left,Int.emod_eq_of_lt (by omega) (by omega)]
theorem B2I(n:Int):∀k,I9 (Z3 n k)=n % 256 ^ k
 | 0=>by simp[Z3,I9]
 | k+1=>by
  rw[Z3,A9R,B2I n k,P3,B2H,C3F,Int.pow_succ,B3v _ _ (Int.pow_pos (by omega))]
theorem B2J{n:Int}{k:Nat}(h0:0<=n)(h:n<256 ^ k):I9 (Z3 n k)=n:=by
 rw[B2I,Int.emod_eq_of_lt h0 h]
theorem B55(n m:Int):∀k j,k<=j->Z3 (n*256 ^ j+m) k=Z3 m k
 | 0,_,_=>rfl
 | k+1,j,h=>by
  simp only[Z3];rw[B55 n m k j (by omega)];congr 1
  obtain⟨d,rfl⟩:∃d,j=k+1+d:=⟨j - (k+1),by omega⟩;have e:n*256 ^ (k+1+d)+m=m+(n*256 ^ d*256)*256 ^ k:=by
   rw[Int.pow_add,Int.pow_succ];simp only[Int.mul_comm,Int.mul_assoc,Int.mul_left_comm];omega
  rw[C3F,e,Int.add_mul_ediv_right _ _ (by have:=Int.pow_pos (n:=256) (m:=k) (by omega); omega)];unfold A0f;rw[Int.add_mul_emod_self_right]
theorem B2K:∀l:List UInt8,Z3 (I9 l) l.length=l
 | []=>rfl
 | c::l=>by
  have hb:=A01 l;simp only[List.length_cons,Z3];rw[A9R,B55 _ _ _ _ (Nat.le_refl _),B2K l,C3F];congr 1
  rw[Int.add_comm,Int.add_mul_ediv_right _ _ (by omega),Int.ediv_eq_zero_of_lt hb.1 hb.2,Int.zero_add];unfold A0f;have:=c.toNat_lt;rw[show ((c.toNat:Int) % 256).toNat=c.toNat by omega];simp
theorem A5V{a b:List UInt8}{k:Nat}(h:a.length=k):D6 (a++b) k=a:=by subst h; unfold D6; rw[if_neg (by simp)]; simp
theorem A9S{a b:List UInt8}{k:Nat}(h:a.length=k):A8 (a++b) k=b:=by subst h; unfold A8; rw[if_neg (by simp)]; simp
theorem B0i{a b:List UInt8}{sh:Bool}{k:Nat}(h:a.length=k):sh1 (a++b) sh k=sh:=by subst h; unfold sh1; simp; omega
theorem A2N{n:Int}{k:Nat}(b:List UInt8)(h0:0<=n)(h:n<256 ^ k):I9 (D6 (Z3 n k++b) k)=n:=by rw[A5V (P3 n k),B2J h0 h]
theorem A2O(n:Int)(k:Nat)(b:List UInt8):A8 (Z3 n k++b) k=b:=A9S (P3 n k)
theorem A2P(n:Int)(k:Nat)(b:List UInt8)(sh:Bool):sh1 (Z3 n k++b) sh k=sh:=B0i (P3 n k)
theorem B6c(e:Ev)(h:Y8 e=0):(1<=e.kind/\e.kind<=6)/\(e.kind=4->e.n=0)/\(e.kind≠4->e.text=[])/\(e.kind=1\/e.kind=2->e.field=0/\e.n=0):=by
 unfold Y8 at h;split at h
 ·omega
 ·split at h
  ·omega
  ·rename_i h1 h2;refine⟨by omega,fun h3=>?_,fun h3=>?_,fun h3=>?_⟩
   ·apply Classical.byContradiction; intro h4; exact h2 (.inr (.inl ⟨h3,h4⟩))
   ·apply Classical.byContradiction; intro h4; exact h2 (.inr (.inr ⟨h3,h4⟩))
   ·constructor
    ·apply Classical.byContradiction; intro h4; exact h2 (.inl ⟨h3,.inl h4⟩)
    ·apply Classical.byContradiction; intro h4; exact h2 (.inl ⟨h3,.inr h4⟩)
theorem B6d(e:Ev)(h:X0 e=0)(r:List UInt8):O3 (M4 e++r) false=⟨e,r,false⟩:=by
 obtain⟨h1,h2,h3,h4,h5,h6⟩:=A3f e h;obtain⟨g1,g2,g3,g4⟩:=B6c e h6;obtain⟨k,t,i,f,n,x⟩:=e;simp only at *;unfold O3 M4;simp only[List.append_assoc];rw[A2N _ (by omega) (by omega),A2O,A2P,A2N _ (by omega) (by omega),A2O,A2P,A2N _ (by omega) (by omega),A2O,A2P];rw[if_neg (by omega)];by_cases hk:k=1\/k=2
 ·obtain⟨rfl,rfl⟩:=g4 hk;obtain rfl:=g3 (by omega);rw[if_pos hk,if_pos hk];rfl
 ·rw[if_neg hk,if_neg hk];simp only[List.append_assoc];rw[A2N _ (by omega) (by omega),A2O,A2P];by_cases hk4:k=4
  ·obtain rfl:=g2 hk4;rw[if_pos hk4,if_pos hk4];simp only[List.append_assoc];rw[A2N _ (by omega) (by omega),A2O,A2P];simp only[Int.toNat_natCast];rw[A5V rfl,A9S rfl,B0i rfl]
  ·obtain rfl:=g3 hk4;rw[if_neg hk4,if_neg hk4];rw[A2N _ (by omega) (by omega),A2O,A2P];congr 2
   omega
theorem B56:∀(l:List Ev) (r:List UInt8),(∀e∈l,X0 e=0)->A2L l.length (l.flatMap M4++r) false=⟨l,r,false⟩
 | [],r,_=>rfl
 | e::l,r,h=>by
  simp only[List.length_cons,A2L,List.flatMap_cons,List.append_assoc,Bool.false_eq_true,if_false];rw[B6d e (h e (by simp)),B56 l r fun x hx=>h x (by simp[hx])]
theorem A1J(b:Bt)(h:H8 b=0):(O0 b).length<=379:=by
 obtain⟨h1,h2,h3,h4⟩:=A0g h;have:∀l:List Ev,(∀e∈l,X0 e=0)->(l.flatMap M4).length<=47*l.length:=fun l=>by
  induction l with
  | nil=>intro _; simp
  | cons e l ih =>
   intro hl;have a:=A6C e (hl e (by simp));have b:=ih fun x hx=>hl x (by simp[hx]);simp only[List.flatMap_cons,List.length_append,List.length_cons];omega
 have:=this b.events h4;unfold O0;simp only[List.length_append,P3];omega
theorem A3g(b:Bt)(h:H8 b=0)(s:List UInt8):A9 (A7 b++s)=⟨b,(A7 b).length,0⟩:=by
 have hl:=A1J b h;obtain⟨h1,h2,h3,h4⟩:=A0g h;have e1:I9 (D6 (A7 b++s) 2)=(O0 b).length:=by unfold A7; rw[List.append_assoc,A2N _ (by omega) (by omega)]
 have e2:A8 (A7 b++s) 2=O0 b++s:=by unfold A7; rw[List.append_assoc,A2O]
 have e3:sh1 (A7 b++s) false 2=false:=by unfold A7; rw[List.append_assoc,A2P]
 have e4:H7 (A7 b++s)=O0 b:=by unfold H7; rw[e1,e2,Int.toNat_natCast,A5V rfl]
 have e5:A34 (A7 b++s)=false:=by unfold A34; rw[e1,e2,e3,Int.toNat_natCast,B0i rfl]
 have e6:A2M (O0 b)=b.number:=by unfold A2M O0; rw[List.append_assoc,A2N _ (by omega) (by omega)]
 have e7:o5 (O0 b)=⟨b.events,[],false⟩:=by
  unfold o5 O0;rw[List.append_assoc,A2O,A2P,A2N _ (by omega) (by omega),A2O,A2P,Int.toNat_natCast];have:=B56 b.events [] h4;rw[List.append_nil] at this;exact this
 unfold A9;rw[if_neg (by rw[e5]; simp),e4,e7,e6,if_neg (by simp),if_neg (by simp[h]),e1];simp only[A7,List.length_append,P3];congr 1
 omega
/-! ### What is decoded is encoded as it was -/
theorem N5{s:List UInt8}{sh:Bool}{k:Nat}(h:sh1 s sh k=false):sh=false/\D6 s k++A8 s k=s/\(D6 s k).length=k:=by
 simp only[sh1,Bool.or_eq_false_iff,decide_eq_false_iff_not] at h;obtain⟨h1,h2⟩:=h;refine⟨h1,?_,?_⟩
 ·simp[D6,A8,h2]
 ·simp[D6,h2]; omega
theorem Z4{s:List UInt8}{sh:Bool}{k:Nat}(h:sh1 s sh k=false):Z3 (I9 (D6 s k)) k++A8 s k=s:=by
 obtain⟨_,h2,h3⟩:=N5 h;have:=B2K (D6 s k);rw[h3] at this;rw[this,h2]
theorem B2L(s:List UInt8)(sh:Bool)(h:(O3 s sh).sh=false):sh=false/\M4 (O3 s sh).e++(O3 s sh).s=s:=by
 unfold O3 at h ⊢;simp only at h ⊢;split at h
 ·cases h
 ·rename_i hk;rw[if_neg hk];split at h
  ·rename_i hk2;rw[if_pos hk2];simp only at h ⊢;have a3:=Z4 h;have h2:=(N5 h).1;have a2:=Z4 h2;have h1:=(N5 h2).1;have a1:=Z4 h1;refine⟨(N5 h1).1,?_⟩;simp only[M4,if_pos hk2,List.append_nil,List.append_assoc,a3,a2,a1]
  ·rename_i hk2;rw[if_neg hk2];split at h
   ·rename_i hk4;rw[if_pos hk4];simp only at h ⊢;obtain⟨h5,b1,b2⟩:=N5 h;have a5:=Z4 h5;have h4:=(N5 h5).1;have a4:=Z4 h4;have h3:=(N5 h4).1;have a3:=Z4 h3;have h2:=(N5 h3).1;have a2:=Z4 h2;have h1:=(N5 h2).1;have a1:=Z4 h1;refine⟨(N5 h1).1,?_⟩;have hn:=A01 (D6 (A8 (A8 (A8 (A8 s 1) 1) 2) 1) 1);simp only[M4,if_neg hk2,if_pos hk4,List.append_assoc,b2];rw[Int.toNat_of_nonneg hn.1,b1,a5,a4,a3,a2,a1]
   ·rename_i hk4;rw[if_neg hk4];simp only at h ⊢;have a5:=Z4 h;have h4:=(N5 h).1;have a4:=Z4 h4;have h3:=(N5 h4).1;have a3:=Z4 h3;have h2:=(N5 h3).1;have a2:=Z4 h2;have h1:=(N5 h2).1;have a1:=Z4 h1;refine⟨(N5 h1).1,?_⟩;simp only[M4,if_neg hk2,if_neg hk4,List.append_assoc,Int.sub_add_cancel,a5,a4,a3,a2,a1]
theorem A9T:∀(k:Nat) (s:List UInt8) (sh:Bool),(A2L k s sh).sh=false->sh=false/\(A2L k s sh).l.flatMap M4++(A2L k s sh).s=s/\(A2L k s sh).l.length=k
 | 0,s,sh,h=>⟨h,rfl,rfl⟩
 | k+1,s,sh,h=>by
  cases sh with
  | true=>simp[A2L] at h
  | false =>
   simp only[A2L,Bool.false_eq_true,if_false] at h ⊢;obtain⟨h1,h2,h3⟩:=A9T k _ _ h;obtain⟨_,g2⟩:=B2L s false h1;refine⟨trivial,?_,by simp[h3]⟩;simp only[List.flatMap_cons,List.append_assoc,h2,g2]
theorem B6e(b:List UInt8)(h:(o5 b).sh=false)(hs:(o5 b).s=[]):O0 ⟨A2M b,(o5 b).l⟩=b:=by
 unfold o5 at h hs ⊢;obtain⟨h1,h2,h3⟩:=A9T _ _ _ h;have a2:=Z4 h1;have h0:=(N5 h1).1;have a1:=Z4 h0;have hn:=A01 (D6 (A8 b 2) 1);unfold O0 A2M;simp only[h3];rw[Int.toNat_of_nonneg hn.1];rw[hs,List.append_nil] at h2;rw[h2,List.append_assoc,a2,a1]
theorem A1K(s:List UInt8)(h:(A9 s).e=0):H8 (A9 s).b=0/\(A9 s).n=(A7 (A9 s).b).length/\A7 (A9 s).b++s.drop (A7 (A9 s).b).length=s:=by
 unfold A9 at h ⊢;split at h
 ·simp at h
 ·rename_i c1;rw[if_neg c1];split at h
  ·simp at h
  ·rename_i c2;rw[if_neg c2];split at h
   ·rename_i c3; exact (c3 h).elim
   ·rename_i c3;rw[if_neg c3];simp only at h ⊢;have c3':H8 ⟨A2M (H7 s),(o5 (H7 s)).l⟩=0:=Classical.byContradiction c3;have d1:(o5 (H7 s)).sh=false:=(by simpa using fun h=>c2 (.inl h));have d2:(o5 (H7 s)).s=[]:=Classical.byContradiction fun h=>c2 (.inr h);have d3:A34 s=false:=(by simpa using c1);have hB:=B6e _ d1 d2;unfold A34 at d3;obtain⟨e1,e2,e3⟩:=N5 d3;have a1:=Z4 e1;have hn:=A01 (D6 s 2);have hlen:((H7 s).length:Int)=I9 (D6 s 2):=(by unfold H7; rw[e3]; omega);have hby:A7 ⟨A2M (H7 s),(o5 (H7 s)).l⟩=Z3 (I9 (D6 s 2)) 2++H7 s:=(by unfold A7; rw[hB,hlen]);have hall:Z3 (I9 (D6 s 2)) 2++H7 s++A8 (A8 s 2) (I9 (D6 s 2)).toNat=s:=by
     rw[List.append_assoc,H7,e2,a1]
    refine⟨c3',?_,?_⟩
    ·rw[hby]; simp; omega
    ·rw[hby];have key:∀X Y Z:List UInt8,X++Y=Z->X++Z.drop X.length=Z:=fun X Y Z h=>by subst h; rw[List.drop_left]
     exact key _ _ _ hall
end Go.Am
namespace Go.Am
open Go Go.Proofs Go.RowKit
def P4:Bt:=⟨258,[⟨1,1,3,0,0,[]⟩,⟨4,0,3,1,0,[120,121]⟩]⟩
theorem C3G(id:Nat):A2 Tryz.prog 88 [] [] id (p7 P4) []:=by
 unfold p7 P4;refine w88.e.1 fun E hP hR hl hid=>?_;simp[w88];have hrn:H2 []:=by simp[R4,A4 hid]
 rw[hR];refine K5 (by simp<;>rfl) (by simp[R4,A4 hid]<;>exact⟨rfl,rfl⟩) [] hrn ⟨?_,?_,?_,?_,?_,?_⟩<;>(try simp[R4,A4 hid]);exact B4 _ rfl
end Go.Am
namespace Go.Am
open Go Go.RowKit
theorem X1{s:List UInt8}(h:(A9 s).e=0):3<=(A9 s).n.toNat/\(A9 s).n.toNat<=s.length/\(A9 s).n=((A9 s).n.toNat:Int)/\(A9 s).n.toNat<=400:=by
 obtain⟨h1,h2,h3⟩:=A1K s h;have hl:=congrArg List.length h3;have hb:=A1J _ h1;have h4:3<=(A7 (A9 s).b).length:=by simp[A7,O0]; omega
 have h5:(A7 (A9 s).b).length<=400:=by simp[A7]; omega
 simp only[List.length_append,List.length_drop] at hl;omega
theorem A35{s:List UInt8}(h:(A9 s).e=0)(x:List UInt8):A9 (s++x)=A9 s:=by
 obtain⟨h1,h2,h3⟩:=A1K s h;have e:s++x=A7 (A9 s).b++(s.drop (A7 (A9 s).b).length++x):=by
  rw[←List.append_assoc,h3]
 rw[e,A3g _ h1,←h2];have:=h;cases hd:A9 s with
 | mk b n e=>rw[hd] at this; simp only at this; subst this; rfl
theorem A6D{s:List UInt8}{k:Nat}(h:(A9 s).e=0)(hk:(A9 s).n.toNat<=k):A9 (s.take k)=A9 s:=by
 obtain⟨h1,h2,h3⟩:=A1K s h;have hn:(A9 s).n.toNat=(A7 (A9 s).b).length:=by omega
 have e:s.take k=A7 (A9 s).b++(s.drop (A7 (A9 s).b).length).take (k - (A7 (A9 s).b).length):=by
  conv=>lhs; rw[←h3]
  rw[List.take_append,List.take_of_length_le (by omega)]
 rw[e,A3g _ h1,←h2];have:=h;cases hd:A9 s with
 | mk b n e=>rw[hd] at this; simp only at this; subst this; rfl
structure C5d where
 bs:List Bt
 ends:List Nat
 last:Nat
 e:Int
def C5(s:List UInt8)(a:Nat):C5d :=
 if h:(A9 (s.drop a)).e=0 then
  ⟨(A9 (s.drop a)).b::(C5 s (a+(A9 (s.drop a)).n.toNat)).bs,a::(C5 s (a+(A9 (s.drop a)).n.toNat)).ends,(C5 s (a+(A9 (s.drop a)).n.toNat)).last,(C5 s (a+(A9 (s.drop a)).n.toNat)).e⟩
 else ⟨[],[a],a,(A9 (s.drop a)).e⟩
termination_by s.length - a
decreasing_by
 all_goals
  have:=X1 h;simp at this;omega
theorem Y4{s:List UInt8}{a:Nat}(h:(A9 (s.drop a)).e=0):C5 s a =
  ⟨(A9 (s.drop a)).b::(C5 s (a+(A9 (s.drop a)).n.toNat)).bs,a::(C5 s (a+(A9 (s.drop a)).n.toNat)).ends,(C5 s (a+(A9 (s.drop a)).n.toNat)).last,(C5 s (a+(A9 (s.drop a)).n.toNat)).e⟩:=by
 rw[C5,dif_pos h]
theorem O1{s:List UInt8}{a:Nat}(h:¬(A9 (s.drop a)).e=0):C5 s a=⟨[],[a],a,(A9 (s.drop a)).e⟩:=by
 rw[C5,dif_neg h]
theorem A2Q{s:List UInt8}{p:Nat->Prop}(stop:∀a,¬(A9 (s.drop a)).e=0->p a)(step:∀a,(A9 (s.drop a)).e=0->a+(A9 (s.drop a)).n.toNat<=s.length->p (a+(A9 (s.drop a)).n.toNat)->p a):∀(m a:Nat),s.length - a<m->p a
 | 0,a,h=>by omega
 | m+1,a,h=>by
  by_cases hd:(A9 (s.drop a)).e=0
  ·have:=X1 hd;simp at this;exact step a hd (by omega) (A2Q stop step m _ (by omega))
  ·exact stop a hd
theorem M8(s:List UInt8)(a:Nat)(ha:a<=s.length):a<=(C5 s a).last/\(C5 s a).last<=s.length/\(C5 s a).ends.getLast?=some (C5 s a).last/\(∀x∈(C5 s a).ends,a<=x/\x<=(C5 s a).last)/\(C5 s a).e≠0/\(C5 s a).ends.length=(C5 s a).bs.length+1/\(∀b∈(C5 s a).bs,H8 b=0):=by
 refine A2Q (s:=s) (p:=fun a=>a<=s.length->a<=(C5 s a).last/\(C5 s a).last<=s.length/\(C5 s a).ends.getLast?=some (C5 s a).last/\(∀x∈(C5 s a).ends,a<=x/\x<=(C5 s a).last)/\(C5 s a).e≠0/\(C5 s a).ends.length=(C5 s a).bs.length+1/\(∀b∈(C5 s a).bs,H8 b=0)) (fun a hd ha=>?_) (fun a hd hle ih ha=>?_) (s.length - a+1) a (by omega) ha
 ·rw[O1 hd];exact⟨Nat.le_refl _,ha,rfl,by simp,hd,rfl,by simp⟩
 ·obtain⟨i1,i2,i3,i4,i5,i6,i7⟩:=ih hle;rw[Y4 hd];refine⟨by simp only; omega,i2,?_,?_,i5,by simp[i6],?_⟩
  ·simp only[List.getLast?_cons,i3]; rfl
  ·intro x hx;simp only[List.mem_cons] at hx;rcases hx with rfl|hx
   ·exact⟨Nat.le_refl _,by simp only; omega⟩
   ·have:=i4 x hx; exact⟨by omega,this.2⟩
  ·intro b hb;simp only[List.mem_cons] at hb;rcases hb with rfl|hb
   ·exact (A1K _ hd).1
   ·exact i7 b hb
theorem B2M(s:List UInt8)(k:Nat)(hk:k<=s.length)(a:Nat)(ha:a<=k):(C5 (s.take k) a).last=k↔k∈(C5 s a).ends:=by
 refine A2Q (s:=s) (p:=fun a=>a<=k->((C5 (s.take k) a).last=k↔k∈(C5 s a).ends)) (fun a hd ha=>?_) (fun a hd hle ih ha=>?_) (s.length - a+1) a (by omega) ha
 ·have hd':¬(A9 ((s.take k).drop a)).e=0:=fun h=>by
   have e:(s.take k).drop a++s.drop k=s.drop a:=by
    rw[show s.drop k=(s.drop a).drop (k - a) by rw[List.drop_drop]; congr 1; omega,List.drop_take];exact List.take_append_drop _ _
   have:=A35 h (s.drop k);rw[e] at this;rw[this] at hd;exact hd h
  rw[O1 hd,O1 hd'];simp; omega
 ·have hadv:=X1 hd;by_cases hk2:a+(A9 (s.drop a)).n.toNat<=k
  ·have e:A9 ((s.take k).drop a)=A9 (s.drop a):=by
    rw[List.drop_take]; exact A6D hd (by omega)
   have hd':(A9 ((s.take k).drop a)).e=0:=(by rw[e]; exact hd);rw[Y4 hd,Y4 hd',e];simp only;rw[ih hk2];simp; omega
  ·have hd':¬(A9 ((s.take k).drop a)).e=0:=fun h=>by
    have e:(s.take k).drop a++s.drop k=s.drop a:=by
     rw[show s.drop k=(s.drop a).drop (k - a) by rw[List.drop_drop]; congr 1; omega,List.drop_take];exact List.take_append_drop _ _
    have h1:=A35 h (s.drop k);rw[e] at h1;have h2:=X1 h;rw[h1] at hk2;simp at h2;omega
   rw[Y4 hd,O1 hd'];have:=(M8 s _ hle).2.2.2.1;simp only[List.mem_cons];constructor
   ·intro h; exact .inl h.symm
   ·rintro (h|h)
    ·exact h.symm
    ·have:=this k h; omega
end Go.Am
namespace Go.Am
open Go Go.Proofs Go.RowKit
def eN(l:List Nat):List AV:=l.map fun (n:Nat)=>AV.int .i64 (n:Int)
@[simp] theorem B57 (l:List Nat):F8 (eN l)=true:=E8 (fun _=>rfl) l
@[simp] theorem A7Z (S:Nat->Prop) (l:List Nat):F2 S (eN l):=B4 _ (B57 l)
@[simp] theorem C5e (l:List Nat):(eN l).length=l.length:=by simp[eN]
@[simp] theorem A0u (l:List (List UInt8)):F8 (l.map AV.str)=true:=E8 (fun _=>rfl) l
@[simp] theorem C3H (S:Nat->Prop) (l:List (List UInt8)):F2 S (l.map AV.str):=B4 _ (A0u l)
@[simp] theorem C4f (R:Rn) (S:Nat->Prop) (l:List (List UInt8)):N7 R S (l.map AV.str) (l.map AV.str):=C1 rfl (A0u l)
structure CtX where
 a:Nat
 bs:List Bt
 pre:List Nat
theorem B3w(s:List UInt8)(id:Nat)(hs:s.length<=400):A2 Tryz.prog 158 [.str s] [] id (.tup [.sl ((C5 s 0).bs.map p7),.sl (eN (C5 s 0).ends),.int .i64 (C5 s 0).e]) []:=by
 refine w158.e.1 fun E hP hR hl hid=>?_;simp[w158];refine D3 (X:=CtX) (fun x=>⟨[(0,true,.str s),(5,true,.bsl E.n0 0 x.bs.length),(6,true,.bsl (E.n0+1) 0 (x.pre.length+1)),(7,true,.int .i64 x.a)],
   [(E.n0,some ⟨x.bs.map p7,.agg [.int .i64 0,.nils],false,false⟩),(E.n0+1,some ⟨eN (x.pre++[x.a]),.int .i64 0,false,false⟩)],2⟩)
  (fun x=>x.a<=s.length/\x.bs.length<=x.a/\x.pre.length<=x.a/\x.bs++(C5 s x.a).bs=(C5 s 0).bs/\x.pre++(C5 s x.a).ends=(C5 s 0).ends/\(C5 s x.a).e=(C5 s 0).e) (fun x=>s.length - x.a) ⟨0,[],[]⟩ ?_ ⟨by simp,by simp,by simp,rfl,rfl,rfl⟩ ?_
 ·refine E5.trans (E5.voidSlot 5 (x:=.nils) (y:=.bsl (E.n0+7168) 0 0) (by simp) .nils (.agg [.int .i64 0,.nils])) ?_;refine yV [(E.n0,E.n0+7168),(E.n0+1,E.n0+4096)] (by simp[eN]) fun hrn=>⟨?_,?_,?_,?_,?_⟩<;>(try simp[eN])
 ·rintro⟨a,bs,pre⟩ ⟨ha,hb,hpl,hf1,hf2,hf3⟩ p hp;simp only at ha hb hpl hf1 hf2 hf3 hp;have hD:=B6b (s.drop a);simp only[p7] at hD;refine A3 4000 ?_;simp;refine⟨ha,?_⟩;(refine yH rfl (hD _ (by simp; omega)) ?_; simp);refine E6 (fun h=>?_) (fun h=>?_)
  ·simp;have h':¬(A9 (s.drop a)).e=0:=(by simpa using h);rw[O1 h'] at hf1 hf2 hf3;simp only[List.append_nil] at hf1 hf2 hf3;rw[←hf1,←hf2,←hf3] at hR;have hrn:H2 []:=(by simp[A4 hid]);rw[hR];refine K5 (by simp<;>rfl) (by simp[A4 hid]<;>exact⟨rfl,rfl⟩) [] hrn ⟨?_,?_,?_,?_,?_,?_⟩<;>(try simp[A4 hid]);exact⟨List.take_of_length_le (by simp),by rw[List.take_of_length_le (by simp)]; exact A7Z _ _⟩
  ·simp;have h':(A9 (s.drop a)).e=0:=(by simpa using h);have hadv:=X1 h';simp only[List.length_drop] at hadv;obtain⟨n,hn⟩:∃n:Nat,(A9 (s.drop a)).n=n:=⟨_,hadv.2.2.1⟩;rw[hn] at hadv;simp only[Int.toNat_natCast] at hadv;have hw:IntKind.i64.wrap ((a:Int)+n)=((a+n:Nat):Int):=A5 (by omega);rw[Y4 h',hn] at hf1 hf2 hf3;simp only[Int.toNat_natCast] at hf1 hf2 hf3;simp[hn,hw];refine⟨⟨by omega,by omega⟩,⟨by omega,by omega⟩,hp _ ⟨a+n,bs++[(A9 (s.drop a)).b],pre++[a]⟩ ⟨(by first|omega|(simp; omega)),(by simp; omega),(by simp; omega),by simpa using hf1,by simpa using hf2,hf3⟩ (by first|omega|(simp; omega)) ?_⟩;refine yV [(E.n0,E.n0+21506),(E.n0+1,E.n0+25602)] (by simp) fun hrn=>⟨?_,?_,?_,?_,?_⟩<;>(try simp);exact⟨C1 (by simp[p7]) (C3 (A4h bs) (by simp)),C1 (by simp[eN]) (C3 (B57 _) (by simp))⟩
def B3(l:List (List UInt8)):List UInt8:=l.getLast?.getD []
@[simp] def bxS (l:List (List UInt8)):Bx:=⟨l.map AV.str,.str [],false,false⟩
theorem m6{l:List (List UInt8)}(h:l≠[]):l[l.length - 1]?=some (B3 l):=by
 unfold B3;rw[List.getLast?_eq_getElem?];rw[List.getElem?_eq_getElem (by have:=List.length_pos_iff.2 h; omega)];rfl
theorem B58(l:List (List UInt8))(syn:Int)(id:Nat)(hl8:l.length<=1000000):A2 Tryz.prog 94 [.agg [.sl (l.map AV.str),.int .i64 syn]] [] id (.str (B3 l)) []:=by
 refine w94.e.1 fun E hP hR hl hid=>?_;simp[w94];refine E6 (fun h=>?_) (fun h=>?_)
 ·simp;have h':l=[]:=by simpa using h
  subst h';exact yP hR (h1:=by simp; rfl)
 ·simp;have h':l≠[]:=by simpa using h
  have hg:=m6 h';have hp:=List.length_pos_iff.2 h';have hw:IntKind.i64.wrap ((l.length:Int) - 1)=((l.length - 1:Nat):Int):=by rw[A5 (by omega)]; omega
  simp[hw,hg];refine⟨by omega,?_⟩;exact yP hR
theorem A9U(j:Nat)(l:List (List UInt8))(syn:Int)(id:Nat)(hl8:l.length<=1000000):A2 Tryz.prog 94 [.agg [.bsl j 0 l.length,.int .i64 syn]] [(j,bxS l)] id (.str (B3 l)) []:=by
 simp only[bxS];refine w94.e.1 fun E hP hR hl hid=>?_;simp[w94];have hj:=hl (j,_) (List.mem_cons_self ..);simp only at hj;have j1:=lf hj;simp[j1];refine E6 (fun h=>?_) (fun h=>?_)
 ·simp[j1];have h':l=[]:=by simpa using h
  subst h';refine yE hR [] (by simp[j1,A4 hid]) fun hrn=>⟨?_,?_,?_,?_,?_,?_⟩<;>(try simp[j1,A4 hid]);rfl
 ·simp[j1];have h':l≠[]:=by simpa using h
  have hg:=m6 h';have hp:=List.length_pos_iff.2 h';have hw:IntKind.i64.wrap ((l.length:Int) - 1)=((l.length - 1:Nat):Int):=by rw[A5 (by omega)]; omega
  simp[hw,hg,j1];refine⟨by omega,?_⟩;refine yE hR [] (by simp[j1,A4 hid]) fun hrn=>⟨?_,?_,?_,?_,?_,?_⟩<;>(try simp[j1,A4 hid])
/-! ### Looking through a slice -/
def A2h{α:Type}(p:α->Bool):List α->Nat->Int
 | [],_=>-1
 | x::l,i=>if p x then (i:Int) else A2h p l (i+1)
theorem A5W{α:Type}(p:α->Bool):∀(l:List α) (i:Nat),decide (0<=A2h p l i)=l.any p
 | [],i=>by simp[A2h]
 | x::l,i=>by
  simp only[A2h,List.any_cons];by_cases hx:p x=true
  ·simp[hx]
  ·simp[hx,A5W p l (i+1)]
theorem C1Q(s:List UInt8)(id:Nat):A2 Tryz.prog 157 [.str s] [] id (.bool (decide (400<s.length))) []:=by
 refine w157.e.1 fun E hP hR hl hid=>?_;simp[w157];exact yP hR (h1:=by simp; omega)
theorem B0j(l:List (List UInt8))(id:Nat)(hl8:l.length<=8):A2 Tryz.prog 222 [.sl (l.map AV.str),.fn 157 []] [] id (.int .i64 (A2h (fun s=>decide (400<s.length)) l 0)) []:=by
 refine w222.e.1 fun E hP hR hl hid=>?_;simp[w222];refine D3 (X:=Nat) (fun i=>⟨[(0,true,.sl (l.map AV.str)),(1,true,.fn 157 []),(7,true,.int .i64 l.length),(8,true,.int .i64 i)],[],0⟩) (fun i=>i<=l.length/\A2h (fun s=>decide (400<s.length)) (l.drop i) i=A2h (fun s=>decide (400<s.length)) l 0) (fun i=>l.length - i) 0 ?_ ⟨by omega,rfl⟩ ?_
 ·refine yV [] (by simp) fun hrn=>⟨?_,?_,?_,?_,?_⟩<;>(try simp)
 ·rintro i ⟨hi,hf⟩ p hp;refine A3 4000 ?_;simp;refine E6 (fun h=>?_) (fun h=>?_)
  ·have h:=of_decide_eq_true h;obtain⟨x,hx,hd⟩:=B6 h;rw[hd] at hf;simp only[A2h] at hf;have hi1:IntKind.i64.wrap ((i:Int)+1)=((i+1:Nat):Int):=A5 (by omega);simp[hx];refine⟨h,?_⟩;refine L7 hP rfl rfl (C1Q x _) (by simp) (by simp<;>rfl) ?_;refine A3 4000 ?_;simp;refine E6 (fun h1=>?_) (fun h1=>?_)
   ·simp;rw[if_pos h1] at hf;exact yP hR (h1:=by simp; exact hf)
   ·simp;rw[if_neg (by simpa using h1)] at hf;refine hp _ (i+1) ⟨h,hf⟩ (by omega) ?_;refine yV [] (by simp[hi1]) fun hrn=>⟨?_,?_,?_,?_,?_⟩<;>(try simp[hi1])
  ·have h:=of_decide_eq_false h;simp;rw[List.drop_of_length_le (by omega)] at hf;exact yP hR (h1:=by simp; exact hf)
theorem A6Y(l:List (List UInt8))(id:Nat)(hl8:l.length<=8):A2 Tryz.prog 156 [.sl (l.map AV.str),.fn 157 []] [] id (.bool (l.any fun s=>decide (400<s.length))) []:=by
 refine w156.e.1 fun E hP hR hl hid=>?_;simp[w156];(refine yH rfl (B0j l _ hl8) ?_; simp);exact yP hR (h1:=by simp; rw[A5W])
theorem B8a(l:List Nat)(v:Int)(id:Nat)(hl8:l.length<=1000000):A2 Tryz.prog 224 [.sl (eN l),.int .i64 v] [] id (.int .i64 (A2h (fun (x:Nat)=>v==(x:Int)) l 0)) []:=by
 unfold eN;refine w224.e.1 fun E hP hR hl hid=>?_;simp[w224];refine D3 (X:=Nat) (fun i=>⟨[(0,true,.sl (l.map fun (n:Nat)=>AV.int .i64 (n:Int))),(1,true,.int .i64 v),(7,true,.int .i64 l.length),(8,true,.int .i64 i)],[],0⟩) (fun i=>i<=l.length/\A2h (fun (x:Nat)=>v==(x:Int)) (l.drop i) i=A2h (fun (x:Nat)=>v==(x:Int)) l 0) (fun i=>l.length - i) 0 ?_ ⟨by omega,rfl⟩ ?_
 ·refine yV [] (by simp) fun hrn=>⟨?_,?_,?_,?_,?_⟩<;>(try simp);all_goals exact A7Z _ _
 ·rintro i ⟨hi,hf⟩ p hp;refine A3 4000 ?_;simp;refine E6 (fun h=>?_) (fun h=>?_)
  ·have h:=of_decide_eq_true h;obtain⟨x,hx,hd⟩:=B6 h;rw[hd] at hf;simp only[A2h] at hf;have hi1:IntKind.i64.wrap ((i:Int)+1)=((i+1:Nat):Int):=A5 (by omega);simp[hx];refine⟨h,?_⟩;refine E6 (fun h1=>?_) (fun h1=>?_)
   ·simp;rw[if_pos h1] at hf;exact yP hR (h1:=by simp; exact hf)
   ·simp;rw[if_neg (by simpa using h1)] at hf;refine hp _ (i+1) ⟨h,hf⟩ (by omega) ?_;refine yV [] (by simp[hi1]) fun hrn=>⟨?_,?_,?_,?_,?_⟩<;>(try simp[hi1]);all_goals exact A7Z _ _
  ·have h:=of_decide_eq_false h;simp;rw[List.drop_of_length_le (by omega)] at hf;exact yP hR (h1:=by simp; exact hf)
theorem B2N(l:List Nat)(v:Int)(id:Nat)(hl8:l.length<=1000000):A2 Tryz.prog 159 [.sl (eN l),.int .i64 v] [] id (.bool (l.any fun (x:Nat)=>v==(x:Int))) []:=by
 refine w159.e.1 fun E hP hR hl hid=>?_;simp[w159];(refine yH rfl (B8a l v _ hl8) ?_; simp);exact yP hR (h1:=by simp; rw[A5W])
structure Dk where
 seg:List (List UInt8)
 syn:Int
def eDk(d:Dk):AV:=.agg [.sl (d.seg.map AV.str),.int .i64 d.syn]
structure SgS where
 e:Int
 ends:List Nat
def V7:List (List UInt8)->List Nat->SgS
 | [],ends=>⟨0,ends⟩
 | s::r,_=>if (C5 s 0).e≠5 then ⟨(C5 s 0).e,[]⟩ else if r≠[]/\(C5 s 0).last<s.length then ⟨4,[]⟩ else V7 r (C5 s 0).ends
def C6(d:Dk):Int :=
 if 8<d.seg.length\/(d.seg.any fun s=>decide (400<s.length))=true then 2
 else if (V7 d.seg [0]).e≠0 then (V7 d.seg [0]).e
 else if ((V7 d.seg [0]).ends.any fun (x:Nat)=>d.syn==(x:Int))=true then 0 else 3
theorem A7a:∀(l:List (List UInt8)) (en:List Nat),en.length<=401->(∀s∈l,s.length<=400)->(V7 l en).ends.length<=401
 | [],en,h,_=>h
 | s::r,en,h,hl=>by
  have hf:=(M8 s 0 (by omega)).2.2.2.2.2.1;have hb:(C5 s 0).bs.length<=s.length:=by
   have:=A2Q (s:=s) (p:=fun a=>a<=s.length->(C5 s a).bs.length<=s.length - a) (fun a hd ha=>by rw[O1 hd]; simp) (fun a hd hle ih ha=>by
    have:=ih hle;have:=X1 hd;rw[Y4 hd]; simp only[List.length_cons]; omega) (s.length+1) 0 (by omega) (by omega)
   omega
  have:=hl s (by simp);simp only[V7];split
  ·simp
  ·split
   ·simp
   ·exact A7a r _ (by omega) fun x hx=>hl x (by simp[hx])
theorem A4i(s:List UInt8):(C5 s 0).ends[(C5 s 0).ends.length - 1]?=some (C5 s 0).last/\1<=(C5 s 0).ends.length/\(C5 s 0).ends.length<=s.length+1:=by
 have hf:=M8 s 0 (by omega);have h1:=hf.2.2.1;rw[List.getLast?_eq_getElem?] at h1;have hb:(C5 s 0).bs.length<=s.length:=by
  have:=A2Q (s:=s) (p:=fun a=>a<=s.length->(C5 s a).bs.length<=s.length - a) (fun a hd ha=>by rw[O1 hd]; simp) (fun a hd hle ih ha=>by
   have:=ih hle;have:=X1 hd;rw[Y4 hd]; simp only[List.length_cons]; omega) (s.length+1) 0 (by omega) (by omega)
  omega
 exact⟨h1,by omega,by omega⟩
theorem A1u(d:Dk)(id:Nat):A2 Tryz.prog 91 [eDk d] [] id (.int .i64 (C6 d)) []:=by
 unfold eDk;refine w91.e.1 fun E hP hR hl hid=>?_;simp[w91];(refine I0 hP (by simp) rfl (fun hc=>⟨A6Y d.seg _ (by revert hc; simp; omega),by revert hc; simp; try grind,by simp⟩) ?_; refine A3 4000 ?_; simp);refine E6 (fun h=>?_) (fun h=>?_)
 ·simp;have h':8<d.seg.length\/(d.seg.any fun s=>decide (400<s.length))=true:=by
   simp at h ⊢; rcases h with h|h
   ·exact .inl (by omega)
   ·exact .inr h
  have hv:C6 d=2:=by unfold C6; rw[if_pos h']
  rw[hv] at hR;exact yP hR
 ·have h':¬(8<d.seg.length\/(d.seg.any fun s=>decide (400<s.length))=true):=by
   simp at h ⊢; exact⟨by omega,h.2⟩
  have h8:d.seg.length<=8:=by omega
  have hss:∀s∈d.seg,s.length<=400:=fun s hs=>by
   simp at h'; exact h'.2 s hs
  have hv:C6 d=if (V7 d.seg [0]).e≠0 then (V7 d.seg [0]).e else if ((V7 d.seg [0]).ends.any fun (x:Nat)=>d.syn==(x:Int))=true then 0 else 3:=by unfold C6; rw[if_neg h']
  rw[hv] at hR;have hen:=A7a d.seg [0] (by simp) hss;simp;refine D3 (X:=Nat×List Nat) (fun x=>⟨[(1,true,.ptr E.n0 0 0),(3,true,.sl (eN x.2)),(20,true,.sl (d.seg.map AV.str)),(21,true,.int .i64 d.seg.length),(22,true,.int .i64 x.1)],[(E.n0,some ⟨[.agg [.sl (d.seg.map AV.str),.int .i64 d.syn]],.agg [.nils,.int .i64 0],false,false⟩)],1⟩)
   (fun x=>x.1<=d.seg.length/\V7 (d.seg.drop x.1) x.2=V7 d.seg [0]) (fun x=>d.seg.length - x.1) (0,[0]) ?_ ⟨by simp,rfl⟩ ?_
  ·refine E5.trans (E5.frz 3 (x:=.bsl (E.n0+11264) 0 1) (x':=.sl [.int .i64 0]) (fz:=[(E.n0+11264,⟨[.int .i64 0],.int .i64 0,false,false⟩)]) (by simp) (by simp) (by simp) (by simp)) ?_;refine yV [(E.n0,E.n0)] (by simp[eN]) fun hrn=>⟨?_,?_,?_,?_,?_⟩<;>(try simp[eN]);exact B4 _ rfl
  ·rintro⟨i,ends⟩ ⟨hi,hf⟩ p hp;simp only at hi hf hp;refine A3 4000 ?_;simp;refine E6 (fun h=>?_) (fun h=>?_)
   ·have h:=of_decide_eq_true h;obtain⟨x,hx,hd⟩:=B6 h;rw[hd] at hf;simp only[V7] at hf;have hi1:IntKind.i64.wrap ((i:Int)+1)=((i+1:Nat):Int):=A5 (by omega);have hx4:=hss x (List.mem_of_getElem? hx);obtain⟨g1,g2,g3⟩:=A4i x;simp[hx];refine⟨h,?_⟩;(refine yH rfl (B3w x _ hx4) ?_; simp);refine E6 (fun h1=>?_) (fun h1=>?_)
    ·simp;have h1':(C5 x 0).e≠5:=(by simpa using h1);rw[if_pos h1'] at hf;rw[←hf,if_pos (M8 x 0 (by omega)).2.2.2.2.1] at hR;exact yP hR
    ·simp;have h1':¬(C5 x 0).e≠5:=(by simpa using h1);rw[if_neg h1'] at hf;have hwl:IntKind.i64.wrap ((d.seg.length:Int) - 1)=(d.seg.length:Int) - 1:=A5 (by omega);have hwe:IntKind.i64.wrap (((C5 x 0).ends.length:Int) - 1)=(((C5 x 0).ends.length - 1:Nat):Int):=(by rw[A5 (by omega)]; omega);have hel:(eN (C5 x 0).ends)[(C5 x 0).ends.length - 1]?=some (.int .i64 ((C5 x 0).last:Int)):=(by simp[eN,g1]);simp[hwl,hwe,hel];refine⟨fun hh=>⟨hh,by omega⟩,?_⟩;have hr:d.seg.drop (i+1)≠[]↔(i:Int)<(d.seg.length:Int) - 1:=(by simp; omega);refine E6 (fun h2=>?_) (fun h2=>?_)
     ·simp;have h2':d.seg.drop (i+1)≠[]/\(C5 x 0).last<x.length:=by
       rw[hr]; simpa using h2
      rw[if_pos h2'] at hf;rw[←hf] at hR;rw[if_pos (by simp)] at hR;exact yP hR
     ·simp;have h2':¬(d.seg.drop (i+1)≠[]/\(C5 x 0).last<x.length):=by
       rw[hr]; simpa using h2
      rw[if_neg h2'] at hf;refine hp _ (i+1,(C5 x 0).ends) ⟨h,hf⟩ (by simp only[]; omega) ?_;refine yV [(E.n0,E.n0)] (by simp[hi1]) fun hrn=>⟨?_,?_,?_,?_,?_⟩<;>(try simp[hi1])
   ·have h:=of_decide_eq_false h;simp;rw[List.drop_of_length_le (by omega)] at hf;simp only[V7] at hf;rw[←hf] at hR hen;simp only[ne_eq,not_true_eq_false,if_false] at hR;(refine yH rfl (B2N ends d.syn _ (by simp only at hen; omega)) ?_; simp);refine E6 (fun h1=>?_) (fun h1=>?_)
    ·simp;have h1':¬(ends.any fun (x:Nat)=>d.syn==(x:Int))=true:=(by simpa using h1);rw[if_neg h1'] at hR;exact yP hR
    ·simp;have h1':(ends.any fun (x:Nat)=>d.syn==(x:Int))=true:=(by simpa using h1);rw[if_pos h1'] at hR;exact yP hR
/-! ### The keeper -/
@[simp] def bxK (j n:Nat) (syn:Int):Bx:=⟨[.agg [.bsl j 0 n,.int .i64 syn]],.agg [.nils,.int .i64 0],false,false⟩
theorem B8b(l:List (List UInt8))(id:Nat)(hl8:l.length<=1000000):A2 Tryz.prog 160 [.sl (l.map AV.str)] [] id (.bsl id 0 l.length) [(id,some (bxS l))]:=by
 simp only[bxS];refine A5Q w160.hf w160.hc w160.hn w160.hr (by simp[Tryz.ntmps160]) fun E hP hR hl hid=>?_;refine A3 9 ?_;simp[w160];refine B8P (s:=0) (d:=3) (e:=4) (xs:=l.map AV.str) (by simp) (by decide) (fun hx=>?_) ?_
 ·refine A3 10 ?_;simp;have hx:l=[]:=by simpa using hx
  subst hx;refine A5O (E5.voidSlot 2 (x:=.nils) (y:=.bsl (E.n0+4096) 0 0) (by simp) .nils (.str [])) ?_;refine A3 4000 ?_;simp;refine yE hR [(id,E.n0+4096)] (by simp[A4 hid]) fun hrn=>⟨?_,?_,?_,?_,?_,?_⟩<;>(try simp[A4 hid])
 ·refine A3 4000 ?_;simp;refine⟨⟨by omega,by omega⟩,?_⟩;refine yE hR [(id,E.n0+5120)] (by simp[A4 hid]) fun hrn=>⟨?_,?_,?_,?_,?_,?_⟩<;>(try simp[A4 hid])
theorem B0k(l:List (List UInt8))(syn:Int)(id:Nat)(hl8:l.length<=1000000):A2 Tryz.prog 92 [.agg [.sl (l.map AV.str),.int .i64 syn]] [] id (.ptr id 0 0) [(id,some (bxK (id+1) l.length syn)),(id+1,some (bxS l))]:=by
 simp only[bxK,bxS];refine w92.e.1 fun E hP hR hl hid=>?_;simp[w92];(refine yH rfl (B8b l _ hl8) ?_; simp);have hrn:H2 [(id,E.n0+9216),(id+1,E.n0+4096)]:=by simp[A4 hid,A32 hid,A1H hid,A09 hid,A0A hid,m5 hid]
 rw[hR];refine E9 (by simp<;>rfl) [(id,E.n0+9216),(id+1,E.n0+4096)] hrn ⟨?_,?_,?_,?_,?_,?_⟩<;>(try simp[A4 hid,A32 hid,A1H hid,A09 hid,A0A hid,m5 hid])
theorem B59(k j:Nat)(l:List (List UInt8))(syn:Int)(id:Nat)(hl8:l.length<=8)(h4:(B3 l).length<=400)(hkj:k≠j):A2 Tryz.prog 107 [.ptr k 0 0] [(k,bxK j l.length syn),(j,bxS l)] id (.int .i64 ((C5 (B3 l) 0).last:Int)) []:=by
 simp only[bxK,bxS];refine w107.e.1 fun E hP hR hl hid=>?_;simp[w107];have hk:=hl (k,_) (List.mem_cons_self ..);simp only at hk;have k1:=lf hk;have hj:=hl (j,_) (List.mem_cons_of_mem _ (List.mem_cons_self ..));simp only at hj;have j1:=lf hj;have hkj':=hkj.symm;(refine yC rfl (A9U j l syn _ (by omega)) ?_; simp[k1,j1,hkj,hkj']);(refine yC rfl (B3w (B3 l) _ h4) ?_; simp[k1,j1,hkj,hkj']);obtain⟨g1,g2,g3⟩:=A4i (B3 l);have hwe:IntKind.i64.wrap (((C5 (B3 l) 0).ends.length:Int) - 1)=(((C5 (B3 l) 0).ends.length - 1:Nat):Int):=by rw[A5 (by omega)]; omega
 have hel:(eN (C5 (B3 l) 0).ends)[(C5 (B3 l) 0).ends.length - 1]?=some (.int .i64 ((C5 (B3 l) 0).last:Int)):=by simp[eN,g1]
 simp[hwe,hel];refine⟨by omega,?_⟩;refine yE hR [] (by simp[k1,j1,hkj,hkj',A4 hid]) fun hrn=>⟨?_,?_,?_,?_,?_,?_⟩<;>(try simp[k1,j1,hkj,hkj',A4 hid])
theorem B5A(k j:Nat)(l:List (List UInt8))(syn:Int)(id:Nat)(hl8:l.length<=8)(h4:(B3 l).length<=400)(hkj:k≠j):A2 Tryz.prog 152 [.ptr k 0 0] [(k,bxK j l.length syn),(j,bxS l)] id (.bool (decide ((C5 (B3 l) 0).last<(B3 l).length))) []:=by
 have he:=B59 k j l syn;simp only[bxK,bxS] at he ⊢;refine w152.e.1 fun E hP hR hl hid=>?_;simp[w152];have hk:=hl (k,_) (List.mem_cons_self ..);simp only at hk;have k1:=lf hk;have hj:=hl (j,_) (List.mem_cons_of_mem _ (List.mem_cons_self ..));simp only at hj;have j1:=lf hj;have hkj':=hkj.symm;(refine yC rfl (he _ hl8 h4 hkj) ?_; simp[k1,j1,hkj,hkj']);(refine yC rfl (A9U j l syn _ (by omega)) ?_; simp[k1,j1,hkj,hkj']);refine yE hR [] (by simp[k1,j1,hkj,hkj',A4 hid]) fun hrn=>⟨?_,?_,?_,?_,?_,?_⟩<;>(try simp[k1,j1,hkj,hkj',A4 hid])
def A0h(l:List (List UInt8))(s:List UInt8):List (List UInt8):=l.set (l.length - 1) s
def A12(l:List (List UInt8))(n:Nat):List (List UInt8):=A0h l ((B3 l).take n)
theorem B5B(k j:Nat)(l:List (List UInt8))(syn:Int)(n:Nat)(id:Nat)(hl8:l.length<=8)(hn:n<=(B3 l).length)(h4:(B3 l).length<=400)(hkj:k≠j):A2 Tryz.prog 93 [.ptr k 0 0,.int .i64 n] [(k,bxK j l.length syn),(j,bxS l)] id (.tup []) [(j,some (bxS (A12 l n)))]:=by
 simp only[bxK,bxS];refine w93.e.1 fun E hP hR hl hid=>?_;simp[w93];have hk:=hl (k,_) (List.mem_cons_self ..);simp only at hk;have k1:=lf hk;have hj:=hl (j,_) (List.mem_cons_of_mem _ (List.mem_cons_self ..));simp only at hj;have j1:=lf hj;have hkj':=hkj.symm;simp[k1,j1,hkj,hkj'];have hw:IntKind.i64.wrap ((l.length:Int) - 1)=(l.length:Int) - 1:=A5 (by omega);refine E6 (fun h=>?_) (fun h=>?_)
 ·have h':l≠[]:=by
   intro h0;have h:=of_decide_eq_true h;rw[hw,h0] at h;simp at h
  have hg:=m6 h';have hp:=List.length_pos_iff.2 h';have hw2:IntKind.i64.wrap ((l.length:Int) - 1)=((l.length - 1:Nat):Int):=by rw[hw]; omega
  simp[k1,j1,hkj,hkj',hw2,hg];refine⟨by omega,hn,by omega,?_⟩;refine yE hR [] (by simp[k1,j1,hkj,hkj',A4 hid]) fun hrn=>⟨?_,?_,?_,?_,?_,?_⟩<;>(try simp[k1,j1,hkj,hkj',A4 hid]);all_goals exact C1 (by simp[A12,A0h,List.map_set]) (by rw[←List.map_set]; exact A0u _)
 ·have h:=of_decide_eq_false h;rw[hw] at h;have h':l=[]:=List.eq_nil_of_length_eq_zero (by omega);subst h';have hneg0:IntKind.i64.wrap (-1) = -1:=A5 (by omega);simp[k1,j1,hkj,hkj',hneg0];have hneg:IntKind.i64.wrap (-1) = -1:=A5 (by omega);refine yE hR [] (by simp[k1,j1,hkj,hkj',A12,A0h,hneg,A4 hid]) fun hrn=>⟨?_,?_,?_,?_,?_,?_⟩<;>(try simp[k1,j1,hkj,hkj',A12,A0h,hneg,A4 hid])
theorem C1R(k j:Nat)(l:List (List UInt8))(syn:Int)(s:List UInt8)(id:Nat)(hl8:l.length<=8)(hne:l≠[])(hs:(B3 l).length+s.length<=400)(hkj:k≠j):A2 Tryz.prog 153 [.ptr k 0 0,.str s] [(k,bxK j l.length syn),(j,bxS l)] id (.bool true) [(j,some (bxS (A0h l (B3 l++s))))]:=by
 simp only[bxK,bxS];refine w153.e.1 fun E hP hR hl hid=>?_;simp[w153];have hk:=hl (k,_) (List.mem_cons_self ..);simp only at hk;have k1:=lf hk;have hj:=hl (j,_) (List.mem_cons_of_mem _ (List.mem_cons_self ..));simp only at hj;have j1:=lf hj;have hkj':=hkj.symm;have hg:=m6 hne;have hp:=List.length_pos_iff.2 hne;have hw2:IntKind.i64.wrap ((l.length:Int) - 1)=((l.length - 1:Nat):Int):=by rw[A5 (by omega)]; omega
 have hw3:IntKind.i64.wrap (((B3 l).length:Int)+s.length)=(B3 l).length+s.length:=A5 (by omega);simp[k1,j1,hkj,hkj',hw2,hg,hw3,hp];refine⟨by omega,?_⟩;refine B2 (by simp; omega) ?_;simp[k1,j1,hkj,hkj',hw2,hg];(repeat (refine And.intro (by first|assumption|omega|(simp; omega)|(simp_all; done)) ?_));refine yE hR [] (by simp[k1,j1,hkj,hkj',A4 hid]) fun hrn=>⟨?_,?_,?_,?_,?_,?_⟩<;>(try simp[k1,j1,hkj,hkj',A4 hid]);all_goals exact C1 (by simp[A0h,List.map_set]) (by rw[←List.map_set]; exact A0u _)
theorem C1S(k j:Nat)(l:List (List UInt8))(syn:Int)(s:List UInt8)(id:Nat)(hl8:l.length=8)(hs:¬(B3 l).length+s.length<=400)(h4:(B3 l).length<=400)(hs4:s.length<=1000)(hkj:k≠j):A2 Tryz.prog 153 [.ptr k 0 0,.str s] [(k,bxK j l.length syn),(j,bxS l)] id (.bool false) []:=by
 simp only[bxK,bxS];refine w153.e.1 fun E hP hR hl hid=>?_;simp[w153];have hk:=hl (k,_) (List.mem_cons_self ..);simp only at hk;have k1:=lf hk;have hj:=hl (j,_) (List.mem_cons_of_mem _ (List.mem_cons_self ..));simp only at hj;have j1:=lf hj;have hkj':=hkj.symm;have hne:l≠[]:=by intro h; subst h; simp at hl8
 have hg:=m6 hne;have hp:=List.length_pos_iff.2 hne;have hw2:IntKind.i64.wrap ((l.length:Int) - 1)=((l.length - 1:Nat):Int):=by rw[A5 (by omega)]; omega
 have hw3:IntKind.i64.wrap (((B3 l).length:Int)+s.length)=(B3 l).length+s.length:=A5 (by omega);simp[k1,j1,hkj,hkj',hw2,hg,hw3,hp];refine⟨by omega,?_⟩;refine A0 (by simp; omega) ?_;simp;refine B2 (by simp; omega) ?_;simp;refine yE hR [] (by simp[k1,j1,hkj,hkj',A4 hid]) fun hrn=>⟨?_,?_,?_,?_,?_,?_⟩<;>(try simp[k1,j1,hkj,hkj',A4 hid])
theorem C1T(k j:Nat)(l:List (List UInt8))(syn:Int)(s:List UInt8)(id:Nat)(hl8:l.length<8)(hs:l=[]\/¬(B3 l).length+s.length<=400)(h4:(B3 l).length<=400)(hs4:s.length<=1000)(hkj:k≠j):A2 Tryz.prog 153 [.ptr k 0 0,.str s] [(k,bxK j l.length syn),(j,bxS l)] id (.bool true) [(k,some (bxK id (l++[s]).length 0)),(j,none),(id,some (bxS (l++[s])))]:=by
 simp only[bxK,bxS];refine w153.e.1 fun E hP hR hl hid=>?_;simp[w153];have hk:=hl (k,_) (List.mem_cons_self ..);simp only at hk;have k1:=lf hk;have hj:=hl (j,_) (List.mem_cons_of_mem _ (List.mem_cons_self ..));simp only at hj;have j1:=lf hj;have hkj':=hkj.symm;by_cases hne:l=[]
 ·subst hne;simp[k1,j1,hkj,hkj'];refine yE hR [(id,E.n0+38912)] (by simp[A2g hk.2,A0K hk.2,A2g hj.2,A0K hj.2,k1,j1,hkj,hkj',A4 hid]) fun hrn=>⟨?_,?_,?_,?_,?_,?_⟩<;>(try simp[A2g hk.2,A0K hk.2,A2g hj.2,A0K hj.2,k1,j1,hkj,hkj',A4 hid])
 ·have hs:=hs.resolve_left hne;have hg:=m6 hne;have hp:=List.length_pos_iff.2 hne;have hw2:IntKind.i64.wrap ((l.length:Int) - 1)=((l.length - 1:Nat):Int):=by rw[A5 (by omega)]; omega
  have hw3:IntKind.i64.wrap (((B3 l).length:Int)+s.length)=(B3 l).length+s.length:=A5 (by omega);simp[k1,j1,hkj,hkj',hw2,hg,hw3,hp];refine⟨by omega,?_⟩;refine A0 (by simp; omega) ?_;simp;refine A0 (by simp; omega) ?_;simp[k1,j1,hkj,hkj'];(repeat (refine And.intro (by first|assumption|omega|(simp; omega)|(simp_all; done)) ?_));refine yE hR [(id,E.n0+38912)] (by simp[A2g hk.2,A0K hk.2,A2g hj.2,A0K hj.2,k1,j1,hkj,hkj',A4 hid]) fun hrn=>⟨?_,?_,?_,?_,?_,?_⟩<;>(try simp[A2g hk.2,A0K hk.2,A2g hj.2,A0K hj.2,k1,j1,hkj,hkj',A4 hid]);all_goals exact C1 rfl (C3 (A0u l) rfl)
end Go.Am
