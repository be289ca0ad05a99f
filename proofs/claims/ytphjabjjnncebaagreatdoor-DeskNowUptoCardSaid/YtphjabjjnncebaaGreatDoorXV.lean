/- Parts of the proof: an abstract machine for Go functions, and what functions of the program give back (Dp4, Dk18, Dw8, Ss1, Ss2, Sb1, Dw9, Dn1, Ex16, Ex17, Wb1, Qr14, Qr15, Qr16, Qr17, Lx14, Lx15, Qr18, Qr19, Qr20, Qw2). No condition. -/
import Derived.Test.YtphjabjjnncebaaGreatDoorXU
import Derived.Test.YtphjabjjnncebaaGreatDoorXN
import Derived.Test.YtphjabjjnncebaaGreatDoorXG
import Derived.Test.YtphjabjjnncebaaGreatDoorXO
import Derived.Test.YtphjabjjnncebaaGreatDoorXI
import Derived.Test.YtphjabjjnncebaaGreatDoorXE
import Derived.Test.YtphjabjjnncebaaGreatDoorXR
import Derived.Test.YtphjabjjnncebaaGreatDoorXM
import Derived.Test.YtphjabjjnncebaaGreatDoorXS
import Derived.Test.YtphjabjjnncebaaGreatDoorXT
import Derived.Test.YtphjabjjnncebaaGreatDoorXP
import Derived.Test.YtphjabjjnncebaaGreatDoorXQ
import Derived.KernelRfl
set_option maxRecDepth 100000
set_option linter.all false
set_option maxHeartbeats 16000000
namespace Go.Am
open Go Go.Proofs Go.RowKit Go.Proofs.Tryz
def C6D{G:Gh}{w:World}{v:Value}(h:RV G w .nils v):RV G w (.sl []) v:=by
 cases h
 exact .sl [] none 0 0 (λ_ _=>undef) (zy _) (by simp[maxLen]) (λ_=>⟨rfl,rfl⟩) (λi x hi=>by simp at hi) (λa i x j y _ hi=>by simp at hi) (λa i x j y _ hi=>by simp at hi) (λi x j y hi=>by simp at hi)
def B0d{G:Gh}{w:World}{v:Value}{cs ds:List AV}(h:RV G w (.agg cs) v)(hl:cs.length=ds.length)(hh:∀(i:Nat) x y,cs[i]?=some x->ds[i]?=some y->x=y\/(x = .nils/\y = .sl [])):RV G w (.agg ds) v:=by
 cases h with|agg _ vs hs hx =>
 refine .agg ds vs (hl.symm.trans hs) λi y hy=>?_;obtain⟨x,hx'⟩:∃x,cs[i]?=some x:=⟨_,zc (by rw[hl]; exact (ze.1 hy).1)⟩;rcases hh i x y hx' hy with rfl|⟨rfl,rfl⟩
 ·exact hx i x hx'
 ·exact C6D (hx i _ hx')
def A2.nilD{P:Program}{f:Nat}{args args':List AV}{rd:List (Nat×Bx)}{id:Nat}{res:AV}{wr:List (Nat×Option Bx)}(h:A2 P f args rd id res wr)(hl:args'.length=args.length)
  (ha:∀(i:Nat) x y,args'[i]?=some x->args[i]?=some y->∀(G:Gh) w v,RV G w x v->RV G w y v):A2 P f args' rd id res wr:=by
 refine⟨h.1,λC G bx w vs nb hs hv hh hnb hid=>h.2 C G bx w vs nb hs ⟨hl.symm.trans hv.1,λi y hy=>?_⟩ hh hnb hid⟩;obtain⟨x,hx'⟩:∃x,args'[i]?=some x:=⟨_,zc (by rw[hl]; exact (ze.1 hy).1)⟩;exact ha i x y hx' hy G w _ (hv.2 i x hx')
def C6E(n:Int)(G:Gh)(w:World)(v:Value)(h:RV G w (.agg [.nils,.int .i64 n]) v):RV G w (.agg [.sl [],.int .i64 n]) v:=by
 refine B0d h rfl λi x y hx hy=>?_;match i,hx,hy with
 | 0,hx,hy=>simp at hx hy; exact .inr ⟨hx.symm,hy.symm⟩
 | 1,hx,hy=>simp at hx hy; exact .inl (hx.symm.trans hy)
 | i+2,hx,hy=>simp at hx
deriving instance DecidableEq for Fd
deriving instance DecidableEq for Ty
deriving instance DecidableEq for Cl
deriving instance DecidableEq for Tg
deriving instance DecidableEq for H7
def tyW:List Ty:=[⟨[65],[⟨[110],1,[]⟩,⟨[116],2,[]⟩,⟨[98],3,[66]⟩,⟨[108],4,[65]⟩]⟩,⟨[66],[⟨[109],1,[]⟩]⟩]
def B44(id:Nat):A2 prog 35 [] [] id (.sl (tyW.map I7)) []:=by
 unfold tyW;simp only[yj,uf,I7,T5];refine w35.e.1 λE hP hR hl hid=>?_;simp[w35];have hrn:F3 []:=by simp[A4 hid]
 rw[hR];refine I6 f_ (by simp[A4 hid]<;>exact⟨rfl,rfl⟩) [] hrn ⟨?_,?_,?_,?_,?_,?_⟩<;>(try simp[A4 hid]);exact A5 _ rfl
def stW:H7:=⟨tyW,[⟨0,3,[⟨5,[],[]⟩,⟨0,[120],[]⟩,⟨0,[],[1]⟩,⟨0,[],[3,4]⟩]⟩,⟨0,4,[cl0,cl0,cl0,cl0]⟩,⟨1,1,[⟨-1,[],[]⟩]⟩]⟩
def B8r(id:Nat):A2 prog 37 [] [] id (.agg [.sl (tyW.map I7),.sl [.agg [.int .i64 0,.int .i64 3,.sl [.agg [.int .i64 5,.str [],.nils],.agg [.int .i64 0,.str [120],.nils],.agg [.int .i64 0,.str [],.sl [.int .i64 1]],.agg [.int .i64 0,.str [],.sl [.int .i64 3,.int .i64 4]]]],
  .agg [.int .i64 0,.int .i64 4,.sl [.agg [.int .i64 0,.str [],.nils],.agg [.int .i64 0,.str [],.nils],.agg [.int .i64 0,.str [],.nils],.agg [.int .i64 0,.str [],.nils]]],.agg [.int .i64 1,.int .i64 1,.sl [.agg [.int .i64 (-1),.str [],.nils]]]]]) []:=by
 refine w37.e.1 λE hP hR hl hid=>?_;simp[w37];(refine yH rfl (B44 _) ?_; simp);have hrn:F3 []:=by simp[A4 hid]
 rw[hR];refine I6 f_ (by simp[A4 hid]<;>exact⟨rfl,rfl⟩) [] hrn ⟨?_,?_,?_,?_,?_,?_⟩<;>(try simp[A4 hid]);exact A5 _ rfl
def C2E(id:Nat):A2 prog 37 [] [] id (H4 stW) []:=(B8r id).nrm
def w0(x:Int)(h : -9223372036854775808<=x/\x<=9223372036854775807):IntKind.i64.wrap x=x:=wrap64 h
def C7i:H3 tyW=0:=by decide
def C8P:fSt stW=0:=by
 have:=C7i;unfold tyW at this;simp[fSt,stW,this,D0,A1R,c8,D7,tyW,A0B,A2G,cl0,c7,A5K,A4g,K6,A1Z,w0,T7,A1Q,K7,B7,B9,F4,C3,bs]
def txA:List UInt8:=[123,32,109,97,107,101,40,116,121,112,101,58,32,34,65,34,44,32,105,100,58,32,51,41,32,115,101,116,40,116,121,112,101,58,32,34,65,34,44,32,105,100,58,32,51,44,32,102,105,101,108,100,58,32,34,110,34,44,32,110,117,109,98,101,114,58,32,53,41,32,125]
def txB:List UInt8:=[123,32,115,101,116,40,116,121,112,101,58,32,34,65,34,44,32,105,100,58,32,51,44,32,102,105,101,108,100,58,32,34,110,34,44,32,110,117,109,98,101,114,58,32,54,41,32,125]
def txX:List UInt8:=[123,32,65,32,123,32,110,32,125,32,125]
def txY:List UInt8:=[123,32,65,40,105,100,58,32,51,41,32,123,32,110,32,125,32,125]
def anX:List UInt8:=[123,34,65,34,58,91,123,34,110,34,58,53,125,93,125]
def anY:List UInt8:=[123,34,65,34,58,123,34,110,34,58,54,125,125]
def dkA:Dk:=⟨[[0,16,0,1,2,1,0,0,3,3,0,0,3,0,59,154,202,4]],18⟩
def dkB:Dk:=⟨[[0,16,0,1,2,1,0,0,3,3,0,0,3,0,59,154,202,4,0,12,0,2,1,3,0,0,3,0,59,154,202,5]],32⟩
def kA:A4t tyW ⟨[],0⟩ 1 txA=⟨dkA,0⟩:=by kernel_rfl
def kB:A4t tyW dkA 2 txB=⟨dkB,0⟩:=by kernel_rfl
def kC:A4t tyW dkB 2 [63]=⟨dkB,0⟩:=by kernel_rfl
def kX:A5o tyW dkB txX 1=(anX,0):=by kernel_rfl
def kY:A5o tyW dkB txY 2=(anY,0):=by kernel_rfl
def kO:opE tyW dkB=0:=by kernel_rfl
def kS:(opS tyW dkB).things.length=1:=by kernel_rfl
def kL:(L7 dkB.seg).length=2:=by kernel_rfl
def B5R(l:List Ty)(n:Int)(text:List UInt8)(id:Nat):A2 prog 15 [.sl (l.map I7),.agg [.nils,.int .i64 0],.int .i64 n,.str text] [] id (.tup [eDk (A4t l ⟨[],0⟩ n text).d,.int .i64 (A4t l ⟨[],0⟩ n text).e]) []:=by
 refine (A4u l ⟨[],0⟩ n text id).nilD rfl λi x y hx hy G w v h=>?_;match i,hx,hy with
 | 0,hx,hy=>simp at hx hy; subst hx hy; exact h
 | 1,hx,hy=>simp at hx hy; subst hx hy; exact C6E 0 G w v h
 | 2,hx,hy=>simp at hx hy; subst hx hy; exact h
 | 3,hx,hy=>simp at hx hy; subst hx hy; exact h
 | i+4,hx,hy=>simp at hx
def B26(id:Nat):A2 prog 9 [] [] id (.bool true) []:=by
 have hT:=λid=>B44 id;have h1:=λid=>B5R tyW 1 txA id;have h2:=λid=>A4u tyW dkA 2 txB id;have h3:=λid=>A4u tyW dkB 2 [63] id;have h4:=λid=>A7l tyW dkB txX 1 id;have h5:=λid=>A7l tyW dkB txY 2 id;have h6:=λid=>B41 tyW dkB id;have h7:=λid=>B30 dkB dkB id d_;rw[kA] at h1;rw[kB] at h2;rw[kC] at h3;rw[kX] at h4;rw[kY] at h5;rw[show A3P dkB dkB=true from (B4i _ _).2 rfl] at h7;have hs:=kS;have hbl:=kL;rw[kO,show B40 0 (L7 dkB.seg) = .sl ((L7 dkB.seg).map eBt) from rfl,show A1a 0 (opS tyW dkB) = .agg [.sl ((opS tyW dkB).types.map I7),.sl ((opS tyW dkB).things.map W3)] from rfl] at h6;generalize opS tyW dkB=s at *;generalize L7 dkB.seg=bs at *;generalize tyW.map I7=ty at *;unfold eDk at *;generalize dkB=b at *;generalize dkA=a at *;unfold txA at h1;unfold txB at h2;unfold txX anX at h4;unfold txY anY at h5;refine w9.e.1 λE hP hR hl hid=>?_;simp[w9];(refine yH rfl (hT _) ?_; simp);(refine yH rfl (h1 _) ?_; simp);(refine yH rfl (hT _) ?_; simp);(refine yH rfl (h2 _) ?_; simp);(refine yH rfl (hT _) ?_; simp);(refine yH rfl (h3 _) ?_; simp);(refine yH rfl (hT _) ?_; simp);(refine yH rfl (h4 _) ?_; simp);(refine yH rfl (hT _) ?_; simp);(refine yH rfl (h5 _) ?_; simp);(refine yH rfl (hT _) ?_; simp);(refine yH rfl (h6 _) ?_; simp);(refine yG rfl (h7 _) ?_; simp);exact yF hR [] (a_ hs (a_ hbl (A4 hid)))
def B76:∀(n:Nat) (o:D6),o.sz<n->O6 o=0->okO o
 | 0,o,h,_=>by omega
 | n+1,o,h,hc=>by
  obtain⟨h1,h2⟩:=A6i hc;have hz:=A3i o;rw[C1Z];refine⟨λk hk=>by have:=A6h (h1.ks k hk); omega,?_⟩;have:∀l:List D6,(∀x∈l,okO x)->B5K l:=λl=>by
   induction l with
   | nil=>intro _; trivial
   | cons x r ih=>intro h; exact⟨h x (za ..),ih λy hy=>h y (zb _ hy)⟩
  exact this _ λx hx=>B76 n x (by have:=A1U hx; omega) (h2 x hx)
def B27{q:List C4}(h:I8 q=0):q≠[]/\W4 5 q<=40/\deepL 5 q<=5/\S1 q []=0:=by
 unfold I8 at h;split at h
 ·cases h
 rename_i h1;split at h
 ·cases h
 rename_i h2;exact⟨h1,o_,o_,h⟩
def C2F{s:H7}{q:List C4}(h:Q1 s q=0):A5j (qO s q)=0/\okO (qO s q):=by
 unfold Q1 at h;split at h
 ·rename_i g; exact (g h).elim
 rename_i h1;split at h
 ·rename_i g; exact (g h).elim
 rename_i h2;split at h
 ·rename_i h3;have hs:=B1m (zl h1);obtain⟨q1,q2,q3,q4⟩:=B27 (A3h (zl h2)).2.1;have hc:=C2D hs q4;refine⟨?_,B76 ((qO s q).sz+1) _ (wb _) hc⟩;unfold A5j;have a1:=C46 s q 11;have a2:=B72 11 11 _ (C7h s 4 q (B42 5 q q3));rw[zf o_];exact hc
 ·cases h
def C48{s:H7}{q:List C4}(h:Q1 s q=0):qW s q<=2000:=by
 unfold Q1 at h;split at h
 ·rename_i g; exact (g h).elim
 split at h
 ·rename_i g; exact (g h).elim
 split at h
 ·assumption
 ·cases h
def B77{s:H7}{q:List C4}(h:Q1 s q=0)(id:Nat):A2 prog 22 [A33 s q] [] id (.tup [.str (jS (qO s q)),.int .i64 0]) []:=by
 obtain⟨h1,h2⟩:=C2F h;have:=A6j (qO s q) id (C4o (C48 h)) h2;unfold A25 at this;rw[zj h1,h1] at this;unfold A33;rw[zj h];exact this
def B0e(s:H7)(q:List C4):∃(a b:Int) (c:List UInt8) (ks ls:List AV),A33 s q = .agg [.int .i64 a,.int .i64 b,.str c,.sl ks,.sl ls]:=by
 unfold A33;split
 ·rw[Z6]; exact⟨_,_,_,_,_,rfl⟩
 ·exact⟨0,0,[],[],[],rfl⟩
def B45{l:List Ty}{d:Dk}{text:List UInt8}{q:List C4}{m:Nat}(h:opE l d=0)(hm:m<=(L7 d.seg).length)(hq:A36 text = .ok q):A5o l d text m=(if Q1 (Z1 l d m) q=0 then jS (qO (Z1 l d m) q) else [],Q1 (Z1 l d m) q):=by
 obtain⟨hrt,hty,_⟩:=B5Q h m;unfold A5o;rw[zf (v_ h),zf o_,hq];simp only[uv];have e:Q1 (Z1 l d m) q=if A02 l q≠0 then A02 l q else if qW (Z1 l d m) q<=2000 then 0 else 2:=by
  unfold Q1 v6;rw[zf (by rw[hrt.st]; decide),hty,(A5e.1 h).types,C1E hq];simp
 rw[e];by_cases hf:A02 l q=0
 ·by_cases hw:qW (Z1 l d m) q<=2000
  ·simp[hf,hw]
  ·simp[hf,hw]
 ·simp[hf]
def B78{l:List Ty}{d:Dk}{text:List UInt8}{e:Int}{m:Nat}(h:opE l d=0)(hm:m<=(L7 d.seg).length)(hq:A36 text = .error e):A5o l d text m=([],e):=by
 unfold A5o;rw[zf (v_ h),zf o_,hq]
def C2G(l:List Ty)(d:Dk):Z1 l d (L7 d.seg).length=opS l d:=by
 unfold Z1 opS;rw[sr]
def C6F(l:List Ty)(d:Dk):Z1 l d 0=⟨l,[]⟩:=by
 unfold Z1;rw[List.take_zero];rfl
def C6G{G:Gh}{w:World}{v:Value}{x:AV}(h:RV G w (.agg [x,.nils]) v):RV G w (.agg [x,.sl []]) v:=by
 refine B0d h rfl λi x y hx hy=>?_;match i,hx,hy with
 | 0,hx,hy=>simp at hx hy; exact .inl (hx.symm.trans hy)
 | 1,hx,hy=>simp at hx hy; exact .inr ⟨hx.symm,hy.symm⟩
 | i+2,hx,hy=>simp at hx
def B8s(l:List Ty)(q:List C4)(id:Nat)(hq8:m9 q<=1099511627776):A2 prog 21 [.agg [.sl (l.map I7),.nils],.sl (q.map C6)] [] id (.tup [A33 ⟨l,[]⟩ q,.int .i64 (Q1 ⟨l,[]⟩ q)]) []:=by
 refine (A8z ⟨l,[]⟩ q id hq8).nilD rfl λi x y hx hy G w v h=>?_;match i,hx,hy with
 | 0,hx,hy=>simp at hx hy; subst hx hy; exact C6G h
 | 1,hx,hy=>simp at hx hy; subst hx hy; exact h
 | i+2,hx,hy=>simp at hx
def C49{e:Int}(h:e≠0)(b:List Bt):B40 e b = .nils:=by unfold B40; rw[zf h]
noncomputable instance:DecidableEq D6:=λ_ _=>Classical.propDecidable _
def C4A{a b:D6}(h1:a.kind=b.kind)(h2:a.n=b.n)(h3:a.text=b.text)(h4:a.keys=b.keys)(h5:a.kids=b.kids):a=b:=by
 cases a; cases b; simp only[D6.kind,D6.n,D6.text,D6.keys,D6.kids] at *; subst h1 h2 h3 h4 h5; rfl
def B0f{α:Type}{l r:List α}{i:Nat}{x y:α}(h:l.take i=r.take i)(hx:l[i]?=some x)(hy:r[i]?=some y)(he:x=y):l.take (i+1)=r.take (i+1):=by
 rw[vh,vh,h,hx,hy,he]
def B79:∀(m:Nat) (a b:D6) (id:Nat),a.sz<m->a.sz<=1099511627776->A2 prog 25 [eO a,eO b] [] id (.bool (decide (a=b))) []
 | 0,a,b,id,hm,_=>by omega
 | m+1,a,b,id,hm,h8=>by
  have hsz:=A3i a;have hlen:=A2R a.kids;rw[Z6 a,Z6 b];refine w25.e.1 λE hP hR hl hid=>?_;simp[w25];refine D4 (λh=>?_) (λh=>?_)
  ·simp;have hne:decide (a=b)=false:=up λhe=>by subst he; simp at h
   rw[hne] at hR;exact yP hR
  obtain⟨h1,h2,h3,h4,h5⟩:a.kind=b.kind/\a.n=b.n/\a.text=b.text/\a.keys.length=b.keys.length/\a.kids.length=b.kids.length:=by
   simp at h;exact⟨h.1.1.1.1,h.1.1.1.2,h.1.1.2,o_,o_⟩
  simp;refine C1 (X:=Nat) (λi=>⟨[(2,true,.ptr E.n0 0 0),(3,true,.ptr (E.n0+1) 0 0),(5,true,.int .i64 i)],
   [(E.n0,some ⟨[.agg [.int .i64 a.kind,.int .i64 a.n,.str a.text,.sl (a.keys.map .str),.sl (a.kids.map eO)]],.agg [.int .i64 a.kind,.int .i64 a.n,.str a.text,.sl (a.keys.map .str),.sl (a.kids.map eO)],false,false⟩),(E.n0+1,some ⟨[.agg [.int .i64 b.kind,.int .i64 b.n,.str b.text,.sl (b.keys.map .str),.sl (b.kids.map eO)]],.agg [.int .i64 b.kind,.int .i64 b.n,.str b.text,.sl (b.keys.map .str),.sl (b.kids.map eO)],false,false⟩)],2⟩) (λi=>i<=a.keys.length/\a.keys.take i=b.keys.take i) (λi=>a.keys.length - i) 0 ?_ ⟨o_,rfl⟩ ?_
  ·exact yW [(E.n0,E.n0),(E.n0+1,E.n0+1024)] trivial
  rintro i ⟨hi,ht⟩ p hp;refine A3 4000 ?_;simp;refine D4 (λh=>?_) (λh=>?_)
  ·have h:=zr h;obtain⟨x,hx⟩:∃x,a.keys[i]?=some x:=⟨_,zc h⟩;obtain⟨y,hy⟩:∃y,b.keys[i]?=some y:=⟨_,zc o_⟩;have hi1:IntKind.i64.wrap ((i:Int)+1)=((i+1:Nat):Int):=wrap64 o_;simp[hx,hy];refine⟨h,o_,?_⟩;refine D4 (λg=>?_) (λg=>?_)
   ·simp;have hne:decide (a=b)=false:=up λhe=>by subst he; rw[hx] at hy; injection hy with hy; subst hy; simp at g
    rw[hne] at hR;exact yP hR
   ·simp;refine hp _ (i+1) ⟨h,B0f ht hx hy (v_ g)⟩ o_ ?_;exact yW [(E.n0,E.n0),(E.n0+1,E.n0+1)] hi1
  ·have h:=zq h;simp;have hke:a.keys=b.keys:=by
    rw[zm o_,zm o_] at ht; exact ht
   refine C1 (X:=Nat) (λi=>⟨[(2,true,.ptr E.n0 0 0),(3,true,.ptr (E.n0+1) 0 0),(6,true,.int .i64 i)],
    [(E.n0,some ⟨[.agg [.int .i64 a.kind,.int .i64 a.n,.str a.text,.sl (a.keys.map .str),.sl (a.kids.map eO)]],.agg [.int .i64 a.kind,.int .i64 a.n,.str a.text,.sl (a.keys.map .str),.sl (a.kids.map eO)],false,false⟩),(E.n0+1,some ⟨[.agg [.int .i64 b.kind,.int .i64 b.n,.str b.text,.sl (b.keys.map .str),.sl (b.kids.map eO)]],.agg [.int .i64 b.kind,.int .i64 b.n,.str b.text,.sl (b.keys.map .str),.sl (b.kids.map eO)],false,false⟩)],2⟩) (λi=>i<=a.kids.length/\a.kids.take i=b.kids.take i) (λi=>a.kids.length - i) 0 ?_ ⟨o_,rfl⟩ ?_
   ·exact yW [(E.n0,E.n0),(E.n0+1,E.n0+1)] trivial
   clear hp p;rintro i ⟨hi,ht⟩ p hp;refine A3 4000 ?_;simp;refine D4 (λh=>?_) (λh=>?_)
   ·have h:=zr h;obtain⟨x,hx⟩:∃x,a.kids[i]?=some x:=⟨_,zc h⟩;obtain⟨y,hy⟩:∃y,b.kids[i]?=some y:=⟨_,zc o_⟩;have hi1:IntKind.i64.wrap ((i:Int)+1)=((i+1:Nat):Int):=wrap64 o_;have hxm:=A1U (zg hx);have ih:=λid=>B79 m x y id o_ o_;rw[Z6 x,Z6 y] at ih;simp[hx,hy,Z6 x,Z6 y];refine⟨h,o_,?_⟩;(refine yH rfl (ih _) ?_; simp);refine D4 (λg=>?_) (λg=>?_)
    ·simp;have hne:decide (a=b)=false:=up λhe=>by subst he; rw[hx] at hy; injection hy with hy; subst hy; simp at g
     rw[hne] at hR;exact yP hR
    ·simp;refine hp _ (i+1) ⟨h,B0f ht hx hy (v_ g)⟩ o_ ?_;exact yW [(E.n0,E.n0),(E.n0+1,E.n0+1)] hi1
   ·have h:=zq h;have hki:a.kids=b.kids:=by
     rw[zm o_,zm o_] at ht; exact ht
    simp;rw[sg (C4A h1 h2 h3 hke hki)] at hR;exact yP hR
def lookW:List C4:=[.mk [] [65] [] [.mk [] [105,100] [] [],.mk [107] [108] [⟨[102,105,114,115,116],false,[],1⟩] [.mk [] [110] [] []],.mk [] [98] [] [.mk [] [109] [] []]]]
def C2H:v6 tyW lookW=0:=by decide
def C4B:m9 lookW=7:=by decide
def C2I(id:Nat):A2 prog 43 [] [] id (.sl [.agg [.str [],.str [65],.nils,.sl [.agg [.str [],.str [105,100],.nils,.nils],.agg [.str [107],.str [108],.sl [.agg [.str [102,105,114,115,116],.bool false,.str [],.int .i64 1]],.sl [.agg [.str [],.str [110],.nils,.nils]]],.agg [.str [],.str [98],.nils,.sl [.agg [.str [],.str [109],.nils,.nils]]]]]]) []:=by
 refine w43.e.1 λE hP hR hl hid=>?_;simp[w43];have hrn:F3 []:=by simp[A4 hid]
 rw[hR];refine I6 f_ (by simp[A4 hid]<;>exact⟨rfl,rfl⟩) [] hrn ⟨?_,?_,?_,?_,?_,?_⟩<;>(try simp[A4 hid]);exact A5 _ rfl
def C4C(id:Nat):A2 prog 43 [] [] id (.sl (lookW.map C6)) []:=(C2I id).nrm
def outW:D6:=V9 [[65]] [N7 [V9 [[105,100],[107],[98]] [j0 3,N7 [V9 [[110]] [j0 5]],V9 [[109]] [j0 (-1)]],V9 [[105,100],[107],[98]] [j0 4,N7 [],X9]]]
def q_o:qO stW lookW=outW:=by
 simp[qO,lookW,outW,V9,N7,j0,X9,rtO,s6,stW,tyW,B7,B9,thO,thA,F4,C3,bs,K6,A1Z,w0,oL,oS,C7,A5h,D7,tId,A1q,cl0,C4.alias,C4.name,C4.args,C4.kids]
def q_w:qW stW lookW=13:=by
 simp[qW,B5E,lookW,rtW,s6,stW,tyW,B7,B9,thW,thA,F4,C3,bs,K6,A1Z,w0,wL,wS,A5h,D7,tId,A1q,cl0,C4.alias,C4.name,C4.args,C4.kids]
def C2J:A5j outW=0:=by decide
def C4p:okO outW:=by simp[okO,B5K,outW,V9,N7,j0,X9]
def C7j:outW.sz<=1000:=by decide
def C4D:List UInt8:=[123,34,65,34,58,91,123,34,105,100,34,58,51,44,34,107,34,58,91,123,34,110,34,58,53,125,93,44,34,98,34,58,123,34,109,34,58,45,49,125,125,44,123,34,105,100,34,58,52,44,34,107,34,58,91,93,44,34,98,34,58,110,117,108,108,125,93,125]
def C8Q:jS outW=C4D:=by
 simp[jS,jM,jL,outW,V9,N7,j0,X9,A0K,qL,qBj,Lib.join,Lib.itoa,Lib.decDigits,C4D,List.intercalate,List.intersperse]
def C2K:eO outW = .agg [.int .i64 5,.int .i64 0,.str [],.sl (outW.keys.map .str),.sl (outW.kids.map eO)]:=Z6 outW
def B28(id:Nat):A2 prog 12 [] [] id (.bool true) []:=by
 have hf:Q1 stW lookW=0:=by
  unfold Q1;rw[zf (by rw[C8P]; decide),zf (by rw[show stW.types=tyW from rfl,C2H]; decide),zj (by rw[q_w]; decide)]
 have hQ:=λid=>A8z stW lookW id (by rw[C4B]; omega);rw[show A33 stW lookW=eO outW by unfold A33; rw[zj hf,q_o],hf] at hQ;have hPr:=λid=>A6j outW id (by have:=C7j; omega) C4p;rw[show A25 outW=C4D by unfold A25; rw[zj C2J,C8Q],C2J] at hPr;have hC:=λid=>A6g outW id (by have:=C7j; omega) C4p;rw[C2J] at hC;rw[C2K] at hQ hPr hC;generalize outW.keys=ks at *;generalize outW.kids=ls at *;unfold C4D at hPr;refine w12.e.1 λE hP hR hl hid=>?_;simp[w12];(refine yH rfl (C2E _) ?_; simp);(refine yH rfl (C4C _) ?_; simp);(refine yH rfl (hQ _) ?_; simp);(refine yH rfl (hPr _) ?_; simp);(refine yG rfl (hC _) ?_; simp);exact yP hR
def B29(s:List UInt8)(id:Nat):A2 prog 165 [.str s] [] id (.agg [.int .i64 1,.str s,.int .i64 0]) []:=by
 refine w165.e.1 λE hP hR hl hid=>?_;simp[w165];exact yF hR [] (A4 hid)
def A4D(s:List UInt8)(id:Nat):A2 prog 163 [.str s] [] id (.agg [.int .i64 4,.str s,.int .i64 0]) []:=by
 refine w163.e.1 λE hP hR hl hid=>?_;simp[w163];exact yF hR [] (A4 hid)
def C8R{a b c:Nat}(h:[a,b,c].Nodup):((a=b)=False/\(b=a)=False)/\((a=c)=False/\(c=a)=False)/\(b=c)=False/\(c=b)=False:=by
 simp at h;obtain⟨⟨h1,h2⟩,h3⟩:=h;exact⟨⟨eq_false h1,eq_false (zu h1)⟩,⟨eq_false h2,eq_false (zu h2)⟩,eq_false h3,eq_false (zu h3)⟩
def toB(l:List Tk):Bx:=⟨l.map Q5,.agg [.int .i64 0,.str [],.int .i64 0],false,false⟩
theorem A0k(l:List Tk):toB l=⟨l.map Q5,.agg [.int .i64 0,.str [],.int .i64 0],false,false⟩:=rfl
def B46(xs:List Tk):∀a:Tk,a∈xs->(match Q5 a with|AV.agg cs=>cs|v=>[v]).length=3/\∀x:AV,(x∈match Q5 a with|AV.agg cs=>cs|v=>[v])->(match x with|AV.agg cs=>false|AV.tup cs=>false|x=>true)=true:=λa _=>by
 simp[Q5]
def A2t(xs ys:List Tk)(T K M id:Nat)(hd:[T,K,M].Nodup)(hl8:ys.length+xs.length<=1099511627776):
  A2 prog 164 [.bsl T 0 xs.length,.ptr K 0 0] [(T,toB xs),(K,lK (.bsl M 0 ys.length)),(M,toB ys)] id (.tup []) [(K,some (lK (.bsl id 0 (ys.length+xs.length)))),(M,none),(id,some (toB (ys++xs)))]:=by
 have d:=C8R hd;have hex:(ys++xs).map Q5=ys.map Q5++xs.map Q5:=by simp
 rw[A0k,A0k,A0k,M3,M3,hex];refine w164.e.1 λE hP hR hl hid=>?_;simp[w164];have hT:=hl (T,_) (za ..);simp only at hT;have T1:=lf hT;have hK:=hl (K,_) (zb _ (za ..));simp only at hK;have K1:=lf hK;have hM:=hl (M,_) (zb _ (zb _ (za ..)));simp only at hM;have M1:=lf hM;simp[T1,K1,M1,d];refine⟨⟨B46 xs,o_,o_⟩,?_⟩;refine yE hR [(id,E.n0+2048)] (by simp[T1,K1,M1,d,A4 hid]) λhrn=>⟨?_,?_,?_,?_,?_,?_⟩<;>(try simp[T1,K1,M1,d,A4 hid]);exact B4 rfl (B3 (O7 _) (O7 _))
def C2L(xs ys:List Tk)(K M id:Nat)(hd:K≠M)(hl8:ys.length+xs.length<=1099511627776):
  A2 prog 164 [.sl (xs.map Q5),.ptr K 0 0] [(K,lK (.bsl M 0 ys.length)),(M,toB ys)] id (.tup []) [(K,some (lK (.bsl id 0 (ys.length+xs.length)))),(M,none),(id,some (toB (ys++xs)))]:=by
 have hex:(ys++xs).map Q5=ys.map Q5++xs.map Q5:=by simp
 rw[A0k,A0k,M3,M3,hex];refine w164.e.1 λE hP hR hl hid=>?_;simp[w164];have hK:=hl (K,_) (za ..);simp only at hK;have K1:=lf hK;have hM:=hl (M,_) (zb _ (za ..));simp only at hM;have M1:=lf hM;simp[K1,M1,hd,zu hd];refine⟨⟨B46 xs,o_,o_⟩,?_⟩;refine yE hR [(id,E.n0+2048)] (by simp[K1,M1,hd,zu hd,A4 hid]) λhrn=>⟨?_,?_,?_,?_,?_,?_⟩<;>(try simp[K1,M1,hd,zu hd,A4 hid]);exact B4 rfl (B3 (O7 _) (O7 _))
theorem M4(s:List UInt8):Q5 (tkW s) = .agg [.int .i64 1,.str s,.int .i64 0]:=rfl
theorem K9(c:UInt8):Q5 (tkS c) = .agg [.int .i64 4,.str [c],.int .i64 0]:=rfl
def B7A{α:Type}{l:List α}{i:Nat}{x:α}(g:α->List Tk)(h:l[i]?=some x):(l.take (i+1)).flatMap g=(l.take i).flatMap g++g x:=by
 rw[K5 h,ra]; simp
def C2M{α:Type}(l:List α)(i:Nat)(g:α->List Tk):((l.take i).flatMap g).length<=(l.flatMap g).length:=by
 conv=>rhs; rw[←xf i l,ra,zx]
 omega
def Wri(t:Tk):Prop:=∀id,A2 prog 162 [Q5 t] [] id (.str (A2o t)) []
def C4E(n:Int)(tx:List UInt8)(h : -999999999<=n/\n<=999999999):Wri ⟨2,tx,n⟩:=λid=>by
 have hI:=λid=>A1o n id (by unfold I64; omega);unfold Q5;have e:A2o ⟨2,tx,n⟩=Lib.itoa n:=by simp[A2o]
 rw[e];refine w162.e.1 λE hP hR hl hid=>?_;simp[w162];(refine yH rfl (hI _) ?_; simp);exact yP hR
def B7B(k n:Int)(tx:List UInt8)(h2:k≠2)(h3:k≠3):Wri ⟨k,tx,n⟩:=λid=>by
 unfold Q5;have e:A2o ⟨k,tx,n⟩=tx:=by simp[A2o,h2,h3]
 rw[e];have e2:(k==2)=false:=by simpa using h2
 have e3:(k==3)=false:=by simpa using h3
 refine w162.e.1 λE hP hR hl hid=>?_;simp[w162];refine A0 e2 ?_;simp;refine A0 e3 ?_;simp;exact yP hR
def B5S(l:List (List UInt8)):F1 (l.map AV.str)=true:=E4 (λ_=>rfl) l
def B8t{l:List AV}(h:F1 l=true)(n:Nat):F1 (l.take n)=true:=A4v λi x hx=>by
 rw[yd] at hx;split at hx
 ·exact A5y h hx
 ·cases hx
def B8u(l:List Tk)(id:Nat)(hW:∀t∈l,Wri t)(h8:B3b l<=1099511627776)(h9:l.length<=1099511627776):A2 prog 97 [.sl (l.map Q5)] [] id (.str (tkB l)) []:=by
 have hjl:(Lib.join (l.map A2o) [32]).length<=140737488355328:=by
  have:=C3f l;unfold tkB at this; omega
 have hres:(.str (tkB l):AV) = .str (Lib.join (l.map A2o) [32]):=rfl;rw[hres];have hxi:∀(i:Nat) (t:Tk),l[i]?=some t->(l.map A2o)[i]?=some (A2o t):=λi t h=>by rw[ym,h]; rfl
 have hxl:(l.map A2o).length=l.length:=by simp
 generalize l.map A2o=xs at *;refine w97.e.1 λE hP hR hl hid=>?_;simp[w97];refine C1 (X:=Nat) (λi=>⟨[(3,true,.bsl E.n0 0 i),(6,true,.sl (l.map Q5)),(7,true,.int .i64 l.length),(8,true,.int .i64 i)],[(E.n0,some ⟨(xs.map AV.str).take i,.str [],false,false⟩)],1⟩)
  (λi=>i<=l.length) (λi=>l.length - i) 0 ?_ o_ ?_
 ·refine D5.trans (D5.voidSlot 3 (x:=.nils) (y:=.bsl (E.n0+5120) 0 0) s_ .nils (.str [])) ?_;exact yW [(E.n0,E.n0+5120)] trivial
 rintro i hi p hp;rcases yi i l.length with h|h
 ·obtain⟨t,ht,hd⟩:=A8 h;have hli:l[i]=t:=by
   rw[zc h] at ht;injection ht
  have hi1:IntKind.i64.wrap ((i:Int)+1)=((i+1:Nat):Int):=wrap64 o_;have hw:=hW t (zg ht);unfold Wri Q5 at hw;have hst:(xs.map AV.str).take (i+1)=(xs.map AV.str).take i++[.str (A2o t)]:=K5 (by rw[ym,hxi i t ht]; rfl);refine A3 4000 ?_;simp[h,hli,Q5];(refine yH rfl (hw _) ?_; simp);refine⟨⟨o_,o_,o_⟩,?_⟩;refine hp _ (i+1) h o_ ?_;refine yV [(E.n0,E.n0+9217)] (by simp[hi1,hst]) λhrn=>⟨?_,?_,?_,?_,?_⟩<;>(try simp[hi1,hst]);exact B4 rfl (B3 (B8t (B5S _) _) rfl)
 ·have hil:i=l.length:=by omega
  have hka:(xs.map AV.str).take i=xs.map AV.str:=zm m_;have hle:i<=xs.length:=by omega
  have hJo:=λid=>B1T xs [32] id o_ hjl;refine A3 4000 ?_;simp[ux.2 h,hka];(refine A0x hP rfl (hJo _) (by simp[hka,hle]<;>rfl) (by simp[hka,hle]) (by simp[hka,hle]<;>rfl) (by simp[hka,hle]) ?_; refine A3 4000 ?_; simp[hka,hle]);exact yP hR
def C7k(s:List UInt8):Wri (tkW s):=B7B 1 0 s d_ d_
def C7l(c:UInt8):Wri (tkS c):=B7B 4 0 [c] d_ d_
def C6H(l:List C4):tkL l=l.flatMap A0n:=by
 induction l with
 | nil=>rfl
 | cons s r ih=>simp[tkL,ih]
def alT(a:List UInt8):List Tk:=if a≠[] then [tkW a,tkS 58] else []
def B7C(a n:List UInt8):C1A a n=alT a++[tkW n]:=by
 unfold C1A alT;split<;>rfl
def C2N(s:C4):A0n s=alT s.alias++[tkW s.name]++g9 s.args++A0H s.kids:=by
 obtain⟨a,n,x,k⟩:=s;simp[A0n,B7C,C4.alias,C4.name,C4.args,C4.kids]
def C4F(a:List UInt8):(alT a).length<=2:=by unfold alT; split<;>simp
def B47(x:List Ag):(x.flatMap B3c).length=3*x.length:=by
 induction x with
 | nil=>rfl
 | cons a r ih=>rw[xx,zx,ih]; simp[B3c]; omega
def B5T(x:List Ag):(g9 x).length<=3*x.length+2:=by
 have:=B47 x;unfold g9;split
 ·simp only[zt,zx,wc,this]; omega
 ·simp
mutual
def A6m:∀s:C4,(A0n s).length<=7*s.sz
 | .mk a n x k=>by
  have h1:=C4F a;have h2:=B5T x;have h3:=B5U k;simp only[A0n,B7C,zx,zt,wc,C4.sz]; omega
def B5U:∀l:List C4,(A0H l).length<=7*m9 l+2
 | []=>by simp[A0H]
 | s::r=>by
  have h1:=A6m s;have h2:=B2A r;simp only[A0H,zt,zx,wc,m9]; omega
def B2A:∀l:List C4,(tkL l).length<=7*m9 l
 | []=>by simp[tkL]
 | s::r=>by
  have h1:=A6m s;have h2:=B2A r;simp only[tkL,zx,m9]; omega
end
def A9F(l:List C4):(U5 l).length<=7*m9 l+2:=by
 have:=B2A l;simp only[U5,zt,zx,wc]; omega
def qS(E:O8)(l:List C4)(i:Nat)(acc:List Tk):St :=
 ⟨[(3,true,.ptr E.n0 0 0),(4,true,.fn 164 [.ptr E.n0 0 0]),(12,true,.sl (l.map C6)),(13,true,.int .i64 l.length),(14,true,.int .i64 i)],
  [(E.n0,some (lK (.bsl (E.n0+1) 0 acc.length))),(E.n0+1,some (toB acc))],2⟩
def slB(s:C4):Bx:=⟨[C6 s],.agg [.str [],.str [],.nils,.nils],false,false⟩
def qM(E:O8)(l:List C4)(i:Nat)(s:C4)(acc:List Tk):St :=
 ⟨[(3,true,.ptr E.n0 0 0),(4,true,.fn 164 [.ptr E.n0 0 0]),(12,true,.sl (l.map C6)),(13,true,.int .i64 l.length),(14,true,.int .i64 i),(6,true,.ptr (E.n0+2) 0 0)],
  [(E.n0,some (lK (.bsl (E.n0+1) 0 acc.length))),(E.n0+1,some (toB acc)),(E.n0+2,some (slB s))],3⟩
def qA(E:O8)(l:List C4)(i:Nat)(s:C4)(j:Nat)(acc:List Tk):St :=
 ⟨[(3,true,.ptr E.n0 0 0),(4,true,.fn 164 [.ptr E.n0 0 0]),(12,true,.sl (l.map C6)),(13,true,.int .i64 l.length),(14,true,.int .i64 i),(6,true,.ptr (E.n0+2) 0 0),(43,true,.sl (s.args.map q9)),(44,true,.int .i64 s.args.length),(45,true,.int .i64 j)],
  [(E.n0,some (lK (.bsl (E.n0+1) 0 acc.length))),(E.n0+1,some (toB acc)),(E.n0+2,some (slB s))],3⟩
def C7m(a:Ag):Q5 (tkV a)=if a.isText=true then .agg [.int .i64 3,.str a.text,.int .i64 0] else .agg [.int .i64 2,.str [],.int .i64 a.n]:=by
 unfold tkV; split<;>rfl
section
variable (E:O8) (hP:E.P=Tryz.prog) (l:List C4) (i:Nat) (s:C4) (acc:List Tk) (h8:acc.length<=549755813888)
include hP h8
theorem C7n{x:CC}(hx:x = .seq (.r [.f 18 0 6,.l 19 18,.j 20 .neq 19 (.str [])]) (.cond (.t 20) (.r [.m 21 4,.f 22 0 6,.l 23 22,.c 24 165 [23],⟨some 25,none,[],.call 163 [.c (.str [58])]⟩,⟨some 26,none,[24,25],.bslice (.agg [.int .i64 0,.str [],.int .i64 0]) 2 [(0,.t 24),(1,.t 25)]⟩,⟨some 27,none,[21,26],.callv (.t 21) [.t 26]⟩]) CC.skip))
  {k:List Itm} (p:St->Prop) (hp:∀σ,D5 E σ (qM E l i s (acc++alT s.alias))->p σ):Wk E (.code x::.post p::k) (qM E l i s acc):=by
 subst hx;have hoe:=F5 s;by_cases h:s.alias=[]
 ·have e:alT s.alias=[]:=by unfold alT; rw[zf (t_ h)]
  rw[e,wg] at hp;unfold qM slB;refine A3 4000 ?_;simp[lK,toB,hoe,h];refine hp _ ?_;unfold qM;refine yV [(E.n0,E.n0),(E.n0+1,E.n0+1),(E.n0+2,E.n0+2)] (by simp[lK,toB,slB,hoe,h]) λhrn=>⟨?_,?_,?_,?_,?_⟩<;>(try simp[lK,toB,slB,hoe,h])
 ·have e:alT s.alias=[tkW s.alias,tkS 58]:=by unfold alT; rw[zj h]
  have hb:(!s.alias.isEmpty)=true:=by simpa using h
  have hw:=λid=>B29 s.alias id;have hs:=λid=>A4D [58] id;have hput:=λid=>A2t [tkW s.alias,tkS 58] acc (E.n0+8195) E.n0 (E.n0+1) id s_ m_;simp only[A0k,M3] at hput;rw[e] at hp;unfold qM slB;refine A3 4000 ?_;simp[lK,toB,hoe];refine A7 hb ?_;simp;(refine yH rfl (hw _) ?_; simp);(refine yH rfl (hs _) ?_; simp);(refine F9 hP (by simp<;>exact⟨rfl,rfl⟩) rfl (hput _) (by simp[M4,K9]) (by simp[M4,K9]<;>rfl) ?_; refine A3 4000 ?_; simp[M4,K9]);refine hp _ ?_;unfold qM;refine yV [(E.n0,E.n0),(E.n0+1,E.n0+9219),(E.n0+2,E.n0+2)] (by simp[lK,toB,slB,hoe,M4,K9]) λhrn=>⟨?_,?_,?_,?_,?_⟩<;>(try simp[lK,toB,slB,hoe,M4,K9]);all_goals exact B4 rfl (B3 (O7 _) rfl)
theorem C7o{x:CC}(hx:x = .r [.m 28 4,.f 29 1 6,.l 30 29,.c 31 165 [30],⟨some 32,none,[31],.bslice (.agg [.int .i64 0,.str [],.int .i64 0]) 1 [(0,.t 31)]⟩,⟨some 33,none,[28,32],.callv (.t 28) [.t 32]⟩])
  {k:List Itm} (p:St->Prop) (hp:∀σ,D5 E σ (qM E l i s (acc++[tkW s.name]))->p σ):Wk E (.code x::.post p::k) (qM E l i s acc):=by
 subst hx;have hoe:=F5 s;have hw:=λid=>B29 s.name id;have hput:=λid=>A2t [tkW s.name] acc (E.n0+4099) E.n0 (E.n0+1) id s_ m_;simp only[A0k,M3] at hput;unfold qM slB;refine A3 4000 ?_;simp[lK,toB,hoe];(refine yH rfl (hw _) ?_; simp);(refine F9 hP (by simp<;>exact⟨rfl,rfl⟩) rfl (hput _) (by simp[M4,K9]) (by simp[M4,K9]<;>rfl) ?_; refine A3 4000 ?_; simp[M4,K9]);refine hp _ ?_;unfold qM;refine yV [(E.n0,E.n0),(E.n0+1,E.n0+5123),(E.n0+2,E.n0+2)] (by simp[lK,toB,slB,hoe,M4,K9]) λhrn=>⟨?_,?_,?_,?_,?_⟩<;>(try simp[lK,toB,slB,hoe,M4,K9]);all_goals exact B4 rfl (B3 (O7 _) rfl)
theorem C4G{x:CC}(hx:x = .seq (.r [.f 34 2 6,.l 35 34,.n 36 35,.k 37 .gtr 36 0]) (.cond (.t 37) (.seq (.r [.m 38 4,⟨some 39,none,[],.call 163 [.c (.str [40])]⟩,⟨some 40,none,[39],.bslice (.agg [.int .i64 0,.str [],.int .i64 0]) 1 [(0,.t 39)]⟩,⟨some 41,none,[38,40],.callv (.t 38) [.t 40]⟩]) (.seq (.seq (.r [.f 42 2 6,.l 43 42,.n 44 43,.i 45 0]) (.block 2 (.loop (.seq (.r [.b 46 .lss 45 44]) (.seq (.cond (.t 46) CC.skip (.exit 2)) (.seq (.block 3 (.seq (.r [.ia 47 4 .zA 43 45,.L 48 4 47,.al 8 .zA,.st 4 8 48]) (.seq (.r [.m 49 4,.f 50 0 8,.l 51 50,.c 52 165 [51],⟨some 53,none,[],.call 163 [.c (.str [58])]⟩,⟨some 54,none,[52,53],.bslice (.agg [.int .i64 0,.str [],.int .i64 0]) 2 [(0,.t 52),(1,.t 53)]⟩,⟨some 55,none,[49,54],.callv (.t 49) [.t 54]⟩]) (.seq (.r [.f 56 1 8,.l 57 56]) (.cond (.t 57) (.r [.m 58 4,.f 59 2 8,.l 60 59,⟨some 61,none,[60],.build [.int .i64 0,.str [],.int .i64 0] [(0,1,.c (.int .i64 3)),(1,1,.t 60)]⟩,⟨some 62,none,[61],.bslice (.agg [.int .i64 0,.str [],.int .i64 0]) 1 [(0,.t 61)]⟩,⟨some 63,none,[58,62],.callv (.t 58) [.t 62]⟩]) (.r [.m 64 4,.f 65 3 8,.l 66 65,⟨some 67,none,[66],.build [.int .i64 0,.str [],.int .i64 0] [(0,1,.c (.int .i64 2)),(2,1,.t 66)]⟩,⟨some 68,none,[67],.bslice (.agg [.int .i64 0,.str [],.int .i64 0]) 1 [(0,.t 67)]⟩,⟨some 69,none,[64,68],.callv (.t 64) [.t 68]⟩])))))) (.r [.k 70 .add 45 1,.m 45 70]))))))) (.r [.m 71 4,⟨some 72,none,[],.call 163 [.c (.str [41])]⟩,⟨some 73,none,[72],.bslice (.agg [.int .i64 0,.str [],.int .i64 0]) 1 [(0,.t 72)]⟩,⟨some 74,none,[71,73],.callv (.t 71) [.t 73]⟩]))) CC.skip))
  (h9:s.args.length<=137438953472) {k:List Itm} (p:St->Prop) (hp:∀σ,D5 E σ (qM E l i s (acc++g9 s.args))->p σ):Wk E (.code x::.post p::k) (qM E l i s acc):=by
 subst hx;have hoe:=F5 s;by_cases h:s.args=[]
 ·have e:g9 s.args=[]:=by unfold g9; rw[zf (t_ h)]
  rw[e,wg] at hp;unfold qM slB;refine A3 4000 ?_;simp[lK,toB,hoe,h];refine hp _ ?_;unfold qM;refine yV [(E.n0,E.n0),(E.n0+1,E.n0+1),(E.n0+2,E.n0+2)] (by simp[lK,toB,slB,hoe,h]) λhrn=>⟨?_,?_,?_,?_,?_⟩<;>(try simp[lK,toB,slB,hoe,h]);all_goals exact A5 _ rfl
 have e:g9 s.args=tkS 40::(s.args.flatMap B3c++[tkS 41]):=by unfold g9; rw[zj h]
 have hpos:0<s.args.length:=xu.2 h;have hs1:=λid=>A4D [40] id;have hs2:=λid=>A4D [41] id;have hs3:=λid=>A4D [58] id;have hput:=λid=>A2t [tkS 40] acc (E.n0+6147) E.n0 (E.n0+1) id s_ m_;simp only[A0k,M3] at hput;unfold qM slB;refine A3 4000 ?_;simp[lK,toB,hoe,hpos];(refine yH rfl (hs1 _) ?_; simp);(refine F9 hP (by simp<;>exact⟨rfl,rfl⟩) rfl (hput _) (by simp[M4,K9]) (by simp[M4,K9]<;>rfl) ?_; refine A3 4000 ?_; simp[M4,K9]);refine C1 (X:=Nat×List Tk) (λq=>qA E l i s q.1 q.2) (λq=>q.1<=s.args.length/\q.2=acc++[tkS 40]++(s.args.take q.1).flatMap B3c) (λq=>s.args.length - q.1) (0,acc++[tkS 40]) ?_ ⟨s_,s_⟩ ?_
 ·unfold qA;refine yV [(E.n0,E.n0),(E.n0+1,E.n0+7171),(E.n0+2,E.n0+2)] (by simp[lK,toB,slB,hoe,M4,K9]) λhrn=>⟨?_,?_,?_,?_,?_⟩<;>(try simp[lK,toB,slB,hoe,M4,K9]);all_goals exact B4 rfl (B3 (O7 _) rfl)
 rintro⟨j,ac⟩ ⟨hj,hac⟩ p2 hp2;simp only at hj hac;have hacl:ac.length<=1099511627000:=by
  rw[hac];simp only[zx,zt,wc,B47,zz];omega
 rcases yi j s.args.length with h2|h2
 rotate_left
 ·have hjl:j=s.args.length:=by omega
  have hx:ac++[tkS 41]=acc++g9 s.args:=by rw[e,hac,zm h2]; simp
  have hput2:=λid=>A2t [tkS 41] ac (E.n0+3075) E.n0 (E.n0+1) id s_ m_;simp only[A0k,M3] at hput2;rw[←hx] at hp;unfold qA slB;refine A3 4000 ?_;simp[lK,toB,hoe,ux.2 h2];(refine yH rfl (hs2 _) ?_; simp);(refine F9 hP (by simp<;>exact⟨rfl,rfl⟩) rfl (hput2 _) (by simp[M4,K9]) (by simp[M4,K9]<;>rfl) ?_; refine A3 4000 ?_; simp[M4,K9]);refine hp _ ?_;unfold qM;refine yV [(E.n0,E.n0),(E.n0+1,E.n0+4099),(E.n0+2,E.n0+2)] (by simp[lK,toB,slB,hoe,M4,K9]) λhrn=>⟨?_,?_,?_,?_,?_⟩<;>(try simp[lK,toB,slB,hoe,M4,K9]);all_goals exact B4 rfl (B3 (O7 _) rfl)
 obtain⟨a,hga,hda⟩:=A8 h2;have hla:s.args[j]=a:=by
  rw[zc h2] at hga;injection hga
 have hj1:IntKind.i64.wrap ((j:Int)+1)=((j+1:Nat):Int):=wrap64 o_;have hsn:=B7A B3c hga;have hag:q9 a = .agg [.str a.name,.bool a.isText,.str a.text,.int .i64 a.n]:=rfl;have hw:=λid=>B29 a.name id;have hp4:=λid=>A2t [tkW a.name,tkS 58] ac (E.n0+10243) E.n0 (E.n0+1) id s_ m_;have hp5:=λid=>A2t [tkV a] (ac++[tkW a.name,tkS 58]) (E.n0+18435) E.n0 (E.n0+11267) id s_ m_;have hx:ac++[tkW a.name,tkS 58]++[tkV a]=acc++[tkS 40]++(s.args.take (j+1)).flatMap B3c:=by
  rw[hsn,hac]; simp[B3c]
 have hev:=C7m a;simp only[A0k,M3] at hp4 hp5;cases ht:a.isText with
 | true =>
  rw[zj ht] at hev;unfold qA slB;refine A3 4000 ?_;simp[lK,toB,hoe,h2,hla,hag,ht];(refine yH rfl (hw _) ?_; simp);(refine yH rfl (hs3 _) ?_; simp);(refine F9 hP (by simp<;>exact⟨rfl,rfl⟩) rfl (hp4 _) (by simp[M4,K9]) (by simp[M4,K9]<;>rfl) ?_; refine A3 4000 ?_; simp[M4,K9]);(refine F9 hP (by simp<;>exact⟨rfl,rfl⟩) rfl (hp5 _) (by simp[M4,K9,hev]) (by simp[M4,K9,hev]<;>rfl) ?_; refine A3 4000 ?_; simp[M4,K9,hev]);refine hp2 _ (j+1,ac++[tkW a.name,tkS 58]++[tkV a]) ⟨h2,hx⟩ m_ ?_;unfold qA;refine yV [(E.n0,E.n0),(E.n0+1,E.n0+19459),(E.n0+2,E.n0+2)] (by simp[lK,toB,slB,hoe,M4,K9,hev,hj1]) λhrn=>⟨?_,?_,?_,?_,?_⟩<;>(try simp[lK,toB,slB,hoe,M4,K9,hev,hj1]);all_goals exact B4 rfl (B3 (O7 _) rfl)
 | false =>
  rw[zf (t_ ht)] at hev;unfold qA slB;refine A3 4000 ?_;simp[lK,toB,hoe,h2,hla,hag,ht];(refine yH rfl (hw _) ?_; simp);(refine yH rfl (hs3 _) ?_; simp);(refine F9 hP (by simp<;>exact⟨rfl,rfl⟩) rfl (hp4 _) (by simp[M4,K9]) (by simp[M4,K9]<;>rfl) ?_; refine A3 4000 ?_; simp[M4,K9]);(refine F9 hP (by simp<;>exact⟨rfl,rfl⟩) rfl (hp5 _) (by simp[M4,K9,hev]) (by simp[M4,K9,hev]<;>rfl) ?_; refine A3 4000 ?_; simp[M4,K9,hev]);refine hp2 _ (j+1,ac++[tkW a.name,tkS 58]++[tkV a]) ⟨h2,hx⟩ m_ ?_;unfold qA;refine yV [(E.n0,E.n0),(E.n0+1,E.n0+19459),(E.n0+2,E.n0+2)] (by simp[lK,toB,slB,hoe,M4,K9,hev,hj1]) λhrn=>⟨?_,?_,?_,?_,?_⟩<;>(try simp[lK,toB,slB,hoe,M4,K9,hev,hj1]);all_goals exact B4 rfl (B3 (O7 _) rfl)
end
def B48{k:List C4}(h:k≠[]):A0H k=U5 k:=by rw[B8P,zj h]
def B5V:∀(n:Nat) (l:List C4) (id:Nat),m9 l<n->m9 l<=68719476736->A2 prog 98 [.sl (l.map C6)] [] id (.sl ((U5 l).map Q5)) []:=by
 intro n;induction n with
 | zero=>intro l id h; omega
 | succ n ih =>
  intro l id hn h8;have htl:=A9F l;have hll:=u7 l;have hs0:=λid=>A4D [123] id;have hs9:=λid=>A4D [125] id;refine w98.e.1 λE hP hR hl hid=>?_;simp[w98];(refine yH rfl (hs0 _) ?_; simp);refine C1 (X:=Nat×List Tk) (λq=>qS E l q.1 q.2) (λq=>q.1<=l.length/\q.2=tkS 123::(l.take q.1).flatMap A0n) (λq=>l.length - q.1) (0,[tkS 123]) ?_ ⟨s_,s_⟩ ?_
  ·unfold qS;refine yV [(E.n0,E.n0+3072),(E.n0+1,E.n0+2048)] (by simp[lK,toB,K9]) λhrn=>⟨?_,?_,?_,?_,?_⟩<;>(try simp[lK,toB,K9])
  rintro⟨i,acc⟩ ⟨hi,ha⟩ p hp;simp only at hi ha;have htk:U5 l=tkS 123::(l.flatMap A0n++[tkS 125]):=by simp[U5,C6H]
  have hfl:=C2M l i A0n;have hal:acc.length<=549755813888:=by
   rw[htk] at htl;simp only[zt,zx,wc] at htl;rw[ha,zt]; omega
  rcases yi i l.length with h|h
  rotate_left
  ·have hx:acc++[tkS 125]=U5 l:=(by rw[htk,ha,zm h]; simp);have hput:=λid=>A2t [tkS 125] acc (E.n0+3074) E.n0 (E.n0+1) id s_ m_;simp only[A0k,M3] at hput;have hm:(U5 l).map Q5=acc.map Q5++[Q5 (tkS 125)]:=(by rw[←hx]; simp);rw[hm] at hR;unfold qS;refine A3 4000 ?_;simp[lK,toB,ux.2 h];(refine yH rfl (hs9 _) ?_; simp);(refine F9 hP (by simp<;>exact⟨rfl,rfl⟩) rfl (hput _) (by simp[M4,K9]) (by simp[M4,K9]<;>rfl) ?_; refine A3 4000 ?_; simp[M4,K9]);have hrn:F3 []:=(by simp[K9,A4 hid]);rw[hR];refine I6 f_ (by simp[K9,A4 hid]<;>exact⟨rfl,rfl⟩) [] hrn ⟨?_,?_,?_,?_,?_,?_⟩<;>(try simp[K9,A4 hid]);have htk2:List.take (acc.length+1) (acc.map Q5++[.agg [.int .i64 4,.str [125],.int .i64 0]])=acc.map Q5++[.agg [.int .i64 4,.str [125],.int .i64 0]]:=zm s_;rw[htk2];exact⟨rfl,A5 _ (B3 (O7 _) rfl)⟩
  obtain⟨s,hs,hd⟩:=A8 h;have hli:l[i]=s:=by
   rw[zc h] at hs;injection hs
  have hi1:IntKind.i64.wrap ((i:Int)+1)=((i+1:Nat):Int):=wrap64 o_;have hoe:=F5 s;have hsm:=zg hs;have hsz:=u9 hsm;have hse:=A2H s;have hsl:=A6m s;have hse2:=C2N s;have hlen:=congrArg List.length hse2;simp only[zx,zt,wc] at hlen;have hsn:=B7A A0n hs;have hfl2:=C2M l (i+1) A0n;rw[hsn,zx] at hfl2;have hbound:acc.length+(A0n s).length<=549755813888:=by
   rw[htk] at htl;simp only[zt,zx,wc] at htl;rw[ha,zt]; omega
  refine C5K (X:=Unit) (λ_=>qS E l i acc) (λ_=>True) (λp2 hp2=>?_) λ_ _=>?_
  ·unfold qS;refine A3 4000 ?_;simp[lK,toB,h];refine hp2 _ () trivial ?_;unfold qS;refine yV [(E.n0,E.n0),(E.n0+1,E.n0+1)] (by simp[lK,toB]) λhrn=>⟨?_,?_,?_,?_,?_⟩<;>(try simp[lK,toB])
  refine A2w (B5r ?_);refine A2w (A9p (X:=Unit) (λ_=>qM E l i s acc) (λ_=>True) (λp2 hp2=>?_) λ_ _=>?_)
  ·unfold qS;refine A3 4000 ?_;simp[lK,toB,h,hli,hoe];refine hp2 _ () trivial ?_;unfold qM;refine yV [(E.n0,E.n0),(E.n0+1,E.n0+1),(E.n0+2,E.n0+2050)] (by simp[lK,toB,slB,hoe]) λhrn=>⟨?_,?_,?_,?_,?_⟩<;>(try simp[lK,toB,slB,hoe])
  refine A2w (A9p (X:=Unit) (λ_=>qM E l i s (acc++alT s.alias)) (λ_=>True) (λp2 hp2=>C7n E hP l i s acc o_ rfl p2 λσ hc=>hp2 σ () trivial hc) λ_ _=>?_);refine A2w (A9p (X:=Unit) (λ_=>qM E l i s (acc++alT s.alias++[tkW s.name])) (λ_=>True) (λp2 hp2=>C7o E hP l i s _ (by simp only[zx]; omega) rfl p2 λσ hc=>hp2 σ () trivial hc) λ_ _=>?_);refine A2w (A9p (X:=Unit) (λ_=>qM E l i s (acc++alT s.alias++[tkW s.name]++g9 s.args)) (λ_=>True) (λp2 hp2=>C4G E hP l i s _ (by simp only[zx,zt,wc]; omega) rfl o_ p2 λσ hc=>hp2 σ () trivial hc) λ_ _=>?_);have hb3:(acc++alT s.alias++[tkW s.name]++g9 s.args).length+(A0H s.kids).length<=549755813888:=by
   simp only[zx,zt,wc]; omega
  have hx:acc++alT s.alias++[tkW s.name]++g9 s.args++A0H s.kids=tkS 123::(l.take (i+1)).flatMap A0n:=by
   rw[hsn,ha,hse2]; simp
  generalize acc++alT s.alias++[tkW s.name]++g9 s.args=ac at *;by_cases hk:s.kids=[]
  ·have hk2:A0H s.kids=[]:=(by rw[hk]; rfl);rw[hk2,wg] at hx;unfold qM slB;refine A3 4000 ?_;simp[lK,toB,hoe,hk];refine hp _ (i+1,ac) ⟨h,hx⟩ m_ ?_;unfold qS;refine yV [(E.n0,E.n0),(E.n0+1,E.n0+1)] (by simp[lK,toB,hi1]) λhrn=>⟨?_,?_,?_,?_,?_⟩<;>(try simp[lK,toB,hi1])
  ·have hpos:0<s.kids.length:=xu.2 hk;have hK:=λid=>ih s.kids id o_ o_;rw[B48 hk] at hx hb3;have hput:=λid=>C2L (U5 s.kids) ac E.n0 (E.n0+1) id s_ o_;simp only[A0k,M3] at hput;unfold qM slB;refine A3 4000 ?_;simp[lK,toB,hoe,hpos];(refine yH rfl (hK _) ?_; simp);(refine F9 hP (by simp<;>exact⟨rfl,rfl⟩) rfl (hput _) s_ f_ ?_; refine A3 4000 ?_; simp);refine hp _ (i+1,ac++U5 s.kids) ⟨h,hx⟩ m_ ?_;unfold qS;refine yV [(E.n0,E.n0),(E.n0+1,E.n0+8195)] (by simp[lK,toB,hi1]) λhrn=>⟨?_,?_,?_,?_,?_⟩<;>(try simp[lK,toB,hi1]);all_goals exact B4 rfl (B3 (O7 _) (O7 _))
def C4H(s:List UInt8):(lQs s).length<=2*s.length:=by
 induction s with
 | nil=>simp[lQs]
 | cons c r ih =>
  have h1:(lQ c).length<=2:=by
   unfold lQ;repeat' split
   all_goals simp
  have e:lQs (c::r)=lQ c++lQs r:=by simp[lQs]
  rw[e,zx,zt]; omega
def C2O{n:Int}(h : -999999999<=n/\n<=999999999):(Lib.itoa n).length<=10:=by
 unfold Lib.itoa;split
 ·have:=A49 (u:=n.natAbs) o_;simp only[zt]; omega
 ·have:=A49 (u:=n.toNat) o_;omega
def C6I{t:Tk}(h:fTk t=0):(A2o t).length<=82:=by
 unfold fTk at h;obtain⟨h1,h⟩:=A9S h d_;obtain⟨h2,h⟩:=A9S h d_;unfold A2o;split at h
 ·rename_i hk;rw[zf o_,zf o_];have:=C19 h; omega
 ·split at h
  ·rename_i hk;rw[zj hk];split at h
   ·rename_i hn;have:=C2O hn; omega
   ·cases h
  ·rename_i hk2;rw[zf hk2];split at h
   ·rename_i hk3;rw[zj hk3];split at h
    ·cases h
    ·have:=C4H t.text;simp only[zt,zx,wc]; omega
   ·rename_i hk3;rw[zf hk3];split at h
    ·rename_i hs; omega
    ·cases h
def C4I{l:List Tk}(h:A3f l):B3b l<=83*l.length:=by
 induction l with
 | nil=>simp[B3b]
 | cons t r ih =>
  have h1:=C6I (h t (za ..));have h2:=ih λx hx=>h x (zb _ hx);simp only[B3b,yj,vu,zt] at h2 ⊢; omega
def qPr(l:List C4):List UInt8×Int:=if I8 l=0 then (tkB (U5 l),0) else ([],I8 l)
def C6J{l:List C4}(h:I8 l=0):qPr l=(tkB (U5 l),0):=by unfold qPr; rw[zj h]
def B8v(l:List C4)(id:Nat)(h8:m9 l<=1073741824)(hW:I8 l=0->∀t∈U5 l,Wri t):A2 prog 39 [.sl (l.map C6)] [] id (.tup [.str (qPr l).1,.int .i64 (qPr l).2]) []:=by
 have hC:=λid=>A2I l id o_;by_cases hc:I8 l=0
 ·have hT:=λid=>B5V (m9 l+1) l id o_ o_;have h1:=A9F l;have h2:=C4I (C3h hc);have hB:=λid=>B8u (U5 l) id (hW hc) o_ o_;rw[hc] at hC;rw[C6J hc];refine w39.e.1 λE hP hR hl hid=>?_;simp[w39];(refine yH rfl (hC _) ?_; simp);(refine yH rfl (hT _) ?_; simp);(refine yH rfl (hB _) ?_; simp);exact yP hR
 ·have e:qPr l=([],I8 l):=by unfold qPr; rw[zf hc]
  rw[e];refine w39.e.1 λE hP hR hl hid=>?_;simp[w39];(refine yH rfl (hC _) ?_; simp);refine A7 (v_ hc) ?_;simp;exact yP hR
def B8w:∀(n:Nat) (l:List C4) (id:Nat),m9 l<n->m9 l<=1099511627776->A2 prog 42 [.sl (l.map C6),.sl (l.map C6)] [] id (.bool true) []:=by
 intro n;induction n with
 | zero=>intro l id h; omega
 | succ n ih =>
  intro l id hn h8;have hll:=u7 l;refine w42.e.1 λE hP hR hl hid=>?_;simp[w42];refine C1 (X:=Nat) (λi=>⟨[(0,true,.sl (l.map C6)),(1,true,.sl (l.map C6)),(5,true,.int .i64 i)],[],0⟩) (λi=>i<=l.length) (λi=>l.length - i) 0 ?_ o_ ?_
  ·exact yW [] trivial
  rintro i hi p hp;rcases yi i l.length with h|h
  rotate_left
  ·refine A3 4000 ?_;simp[ux.2 h];exact yP hR
  obtain⟨s,hs,hd⟩:=A8 h;have hli:l[i]=s:=by
   rw[zc h] at hs;injection hs
  have hi1:IntKind.i64.wrap ((i:Int)+1)=((i+1:Nat):Int):=wrap64 o_;have hoe:=F5 s;have hsm:=zg hs;have hsz:=u9 hsm;have hse:=A2H s;have hK:=λid=>ih s.kids id o_ o_;refine A3 4000 ?_;simp[h,hli,hoe];(refine H8 hP (by simp[h,hli,hoe]) rfl (λhc=>⟨hK _,by revert hc; simp[h,hli,hoe]; try grind,by simp[h,hli,hoe]⟩) ?_; refine A3 4000 ?_; simp[h,hli,hoe]);refine C1 (X:=Nat) (λk=>⟨[(0,true,.sl (l.map C6)),(1,true,.sl (l.map C6)),(5,true,.int .i64 i),(6,true,.int .i64 k)],[],0⟩) (λk=>k<=s.args.length) (λk=>s.args.length - k) 0 ?_ o_ ?_
  ·exact yW [] trivial
  rintro k hk p2 hp2;rcases yi k s.args.length with h2|h2
  rotate_left
  ·refine A3 4000 ?_;simp[h,hli,hoe,ux.2 h2];refine hp _ (i+1) h o_ ?_;exact yW [] hi1
  obtain⟨a,ha,had⟩:=A8 h2;have hla:s.args[k]=a:=by
   rw[zc h2] at ha;injection ha
  have hag:q9 a = .agg [.str a.name,.bool a.isText,.str a.text,.int .i64 a.n]:=rfl;have hk1:IntKind.i64.wrap ((k:Int)+1)=((k+1:Nat):Int):=wrap64 o_;refine A3 4000 ?_;simp[h,hli,hoe,h2,hla,hag,A1F,A2u];refine hp2 _ (k+1) h2 o_ ?_;exact yW [] hk1
def B5W(l:List C4)(id:Nat)(h:m9 l<=1099511627776):A2 prog 42 [.sl (l.map C6),.sl (l.map C6)] [] id (.bool true) []:=B8w (m9 l+1) l id o_ h
def askW:List C4:=[.mk [120] [65] [⟨[105,100],false,[],3⟩] [.mk [] [105,100] [] [],.mk [] [110] [] []]]
def aqW:List UInt8:=[123,32,120,58,32,65,40,105,100,58,32,51,41,32,123,32,105,100,32,110,32,125,32,125]
def apW:List UInt8:=[123,32,120,32,58,32,65,32,40,32,105,100,32,58,32,51,32,41,32,123,32,105,100,32,110,32,125,32,125]
def C4J(id:Nat):A2 prog 40 [] [] id (.sl [.agg [.str [120],.str [65],.sl [.agg [.str [105,100],.bool false,.str [],.int .i64 3]],.sl [.agg [.str [],.str [105,100],.nils,.nils],.agg [.str [],.str [110],.nils,.nils]]]]) []:=by
 refine w40.e.1 λE hP hR hl hid=>?_;simp[w40];have hrn:F3 []:=by simp[A4 hid]
 rw[hR];refine I6 f_ (by simp[A4 hid]<;>exact⟨rfl,rfl⟩) [] hrn ⟨?_,?_,?_,?_,?_,?_⟩<;>(try simp[A4 hid]);all_goals exact A5 _ rfl
def C6K(id:Nat):A2 prog 40 [] [] id (.sl (askW.map C6)) []:=(C4J id).nrm
def C6L:A36 aqW = .ok askW:=by kernel_rfl
def C4K:qPr askW=(apW,0):=by kernel_rfl
def C2P:I8 askW=0:=by kernel_rfl
def C6M:A36 [123,32,125] = .error 1:=by kernel_rfl
def C4L:∀t∈U5 askW,Wri t:=by
 have e:U5 askW=[tkS 123,tkW [120],tkS 58,tkW [65],tkS 40,tkW [105,100],tkS 58,⟨2,[],3⟩,tkS 41,tkS 123,tkW [105,100],tkW [110],tkS 125,tkS 125]:=by rfl
 rw[e];intro t ht;simp only[zh,yv,or_false] at ht;rcases ht with rfl|rfl|rfl|rfl|rfl|rfl|rfl|rfl|rfl|rfl|rfl|rfl|rfl|rfl
 all_goals first|exact C7l _|exact C7k _|exact C4E 3 [] d_
def A9V(id:Nat):A2 prog 11 [] [] id (.bool true) []:=by
 have hR:=λid=>A3n aqW id;rw[C6L] at hR;have hRd:∀id,A2 prog 16 [.str aqW] [] id (.tup [.sl (askW.map C6),.int .i64 0]) []:=hR;have hR2:=λid=>A3n [123,32,125] id;rw[C6M] at hR2;have hR2:∀id,A2 prog 16 [.str [123,32,125]] [] id (.tup [.nils,.int .i64 1]) []:=hR2;have hPr:=λid=>B8v askW id d_ λ_=>C4L;rw[C4K] at hPr;have hC:=λid=>A2I askW id d_;rw[C2P] at hC;have hS:=λid=>B5W askW id d_;have hTy:=λid=>C6K id;clear hR;generalize htw:askW=tw at *;unfold aqW at hRd;refine w11.e.1 λE hP hR hl hid=>?_;simp[w11];(refine yH rfl (hRd _) ?_; simp);(refine yH rfl (hTy _) ?_; simp);(refine yH rfl (hPr _) ?_; simp);(refine yH rfl (hR2 _) ?_; simp);(refine yG rfl (hTy _) ?_; simp);(refine yG rfl (hC _) ?_; simp);(refine yG rfl (hTy _) ?_; simp);(refine yG rfl (hS _) ?_; simp);simp[apW];exact yP hR
end Go.Am
