/- Parts of the proof: an abstract machine for Go functions, and what functions of the program give back (Dk18, Dw8, Ss1, Ss2, Sb1, Dw9, Dw10, Fb, Fv, Fd, Lw4, Jf). No condition. -/
import Derived.Test.YtphjabjjnncebaaGreatDoorXU
import Derived.Test.YtphjabjjnncebaaGreatDoorXN
import Derived.Test.YtphjabjjnncebaaGreatDoorXG
import Derived.Test.YtphjabjjnncebaaGreatDoorXO
import Derived.Test.YtphjabjjnncebaaGreatDoorXI
import Derived.Test.YtphjabjjnncebaaGreatDoorXE
import Derived.Test.YtphjabjjnncebaaGreatDoorRows
import Derived.Test.YtphjabjjnncebaaGreatDoorXJ
import Derived.Deep.CondSized
import Derived.Test.YtphjabjjnncebaaGreatDoorXH
import Derived.Test.YtphjabjjnncebaaGreatDoorXP
import Derived.Test.YtphjabjjnncebaaGreatDoorCards
import Derived.Test.YtphjabjjnncebaaGreatDoorTie
import Derived.Deep.DeepHandedRow
import Derived.Lib.LaidTab
import Derived.LaidLaws
set_option maxRecDepth 100000
set_option linter.all false
set_option maxHeartbeats 16000000
namespace Go.Am
open Go Go.Proofs Go.RowKit
theorem C4T{G:Gh}{w:World}{v:Value}(h:RV G w .nils v):RV G w (.sl []) v:=by
 cases h
 exact .sl [] none 0 0 (fun _ _=>undef) (ya _) (by simp[maxLen]) (fun _=>⟨rfl,rfl⟩) (fun i x hi=>by simp at hi) (fun a i x j y _ hi=>by simp at hi) (fun a i x j y _ hi=>by simp at hi) (fun i x j y hi=>by simp at hi)
theorem B7t{G:Gh}{w:World}{v:Value}{cs ds:List AV}(h:RV G w (.agg cs) v)(hl:cs.length=ds.length)(hh:∀(i:Nat) x y,cs[i]?=some x->ds[i]?=some y->x=y\/(x = .nils/\y = .sl [])):RV G w (.agg ds) v:=by
 cases h with|agg _ vs hs hx =>
 refine .agg ds vs (hl.symm.trans hs) fun i y hy=>?_;obtain⟨x,hx'⟩:∃x,cs[i]?=some x:=⟨_,zc (by rw[hl]; exact (ze.1 hy).1)⟩;rcases hh i x y hx' hy with rfl|⟨rfl,rfl⟩
 ·exact hx i x hx'
 ·exact C4T (hx i _ hx')
theorem A2.nilD{P:Program}{f:Nat}{args args':List AV}{rd:List (Nat×Bx)}{id:Nat}{res:AV}{wr:List (Nat×Option Bx)}(h:A2 P f args rd id res wr)(hl:args'.length=args.length)
  (ha:∀(i:Nat) x y,args'[i]?=some x->args[i]?=some y->∀(G:Gh) w v,RV G w x v->RV G w y v):A2 P f args' rd id res wr:=by
 refine⟨h.1,fun C G bx w vs nb hs hv hh hnb hid=>h.2 C G bx w vs nb hs ⟨hl.symm.trans hv.1,fun i y hy=>?_⟩ hh hnb hid⟩;obtain⟨x,hx'⟩:∃x,args'[i]?=some x:=⟨_,zc (by rw[hl]; exact (ze.1 hy).1)⟩;exact ha i x y hx' hy G w _ (hv.2 i x hx')
theorem C4U(n:Int)(G:Gh)(w:World)(v:Value)(h:RV G w (.agg [.nils,.int .i64 n]) v):RV G w (.agg [.sl [],.int .i64 n]) v:=by
 refine B7t h rfl fun i x y hx hy=>?_;match i,hx,hy with
 | 0,hx,hy=>simp at hx hy; exact .inr ⟨hx.symm,hy.symm⟩
 | 1,hx,hy=>simp at hx hy; exact .inl (hx.symm.trans hy)
 | i+2,hx,hy=>simp at hx
theorem C4V{l:List Ty}{d:Dk}{n:Int}{text:List UInt8}(h:(A0T l d n text).e≠0):(A0T l d n text).d.seg=[]:=by
 unfold A0T at h ⊢;split
 ·rfl
 split
 ·rfl
 split
 ·rename_i h1 h2 h3;rw[zf h1,zf h2,zj h3] at h;exact absurd rfl h
 rename_i h1 h2 h3;rw[zf h1,zf h2,zf h3] at h;unfold B1h at h ⊢;cases hq:A4W text with
 | error e=>rfl
 | ok q =>
  rw[hq] at h;simp only at h ⊢;split
  ·rfl
  split
  ·rfl
  split
  ·rfl
  rename_i g1 g2 g3;rw[zf g1,zf g2,zf g3] at h;unfold A1W at h ⊢;split
  ·rfl
  split
  ·rfl
  rename_i k1 k2;rw[zf k1,zf k2] at h;exact absurd rfl h
deriving instance DecidableEq for Fd
deriving instance DecidableEq for Ty
deriving instance DecidableEq for Cl
deriving instance DecidableEq for Tg
deriving instance DecidableEq for H0
def tyW:List Ty:=[⟨[65],[⟨[110],1,[]⟩,⟨[116],2,[]⟩,⟨[98],3,[66]⟩,⟨[108],4,[65]⟩]⟩,⟨[66],[⟨[109],1,[]⟩]⟩]
theorem B3W(id:Nat):A2 Tryz.prog 35 [] [] id (.sl (tyW.map I8)) []:=by
 unfold tyW;simp only[ym,uc,I8,T2];refine w35.e.1 fun E hP hR hl hid=>?_;simp[w35];have hrn:H5 []:=by simp[A4 hid]
 rw[hR];refine L6 (by simp<;>rfl) (by simp[A4 hid]<;>exact⟨rfl,rfl⟩) [] hrn ⟨?_,?_,?_,?_,?_,?_⟩<;>(try simp[A4 hid]);exact B3 _ rfl
def stW:H0:=⟨tyW,[⟨0,3,[⟨5,[],[]⟩,⟨0,[120],[]⟩,⟨0,[],[1]⟩,⟨0,[],[3,4]⟩]⟩,⟨0,4,[cl0,cl0,cl0,cl0]⟩,⟨1,1,[⟨-1,[],[]⟩]⟩]⟩
theorem B7u(id:Nat):A2 Tryz.prog 37 [] [] id (.agg [.sl (tyW.map I8),.sl [.agg [.int .i64 0,.int .i64 3,.sl [.agg [.int .i64 5,.str [],.nils],.agg [.int .i64 0,.str [120],.nils],.agg [.int .i64 0,.str [],.sl [.int .i64 1]],.agg [.int .i64 0,.str [],.sl [.int .i64 3,.int .i64 4]]]],
  .agg [.int .i64 0,.int .i64 4,.sl [.agg [.int .i64 0,.str [],.nils],.agg [.int .i64 0,.str [],.nils],.agg [.int .i64 0,.str [],.nils],.agg [.int .i64 0,.str [],.nils]]],.agg [.int .i64 1,.int .i64 1,.sl [.agg [.int .i64 (-1),.str [],.nils]]]]]) []:=by
 refine w37.e.1 fun E hP hR hl hid=>?_;simp[w37];(refine yH rfl (B3W _) ?_; simp);have hrn:H5 []:=by simp[A4 hid]
 rw[hR];refine L6 (by simp<;>rfl) (by simp[A4 hid]<;>exact⟨rfl,rfl⟩) [] hrn ⟨?_,?_,?_,?_,?_,?_⟩<;>(try simp[A4 hid]);exact B3 _ rfl
theorem C15(id:Nat):A2 Tryz.prog 37 [] [] id (D7 stW) []:=(B7u id).nrm
def e1W:Ev:=⟨6,0,3,3,4,[]⟩
def e2W:Ev:=⟨2,0,4,0,0,[]⟩
def e3W:Ev:=⟨3,0,3,0,9,[]⟩
def A6h:H0:=⟨tyW,[⟨0,3,[⟨5,[],[]⟩,⟨0,[120],[]⟩,⟨0,[],[1]⟩,⟨0,[],[3]⟩]⟩,⟨0,4,[cl0,cl0,cl0,cl0]⟩,⟨1,1,[⟨-1,[],[]⟩]⟩]⟩
def C2h:H0:=⟨tyW,[⟨0,3,[⟨5,[],[]⟩,⟨0,[120],[]⟩,⟨0,[],[1]⟩,⟨0,[],[3]⟩]⟩,⟨1,1,[⟨-1,[],[]⟩]⟩]⟩
theorem w0(x:Int)(h : -9223372036854775808<=x/\x<=9223372036854775807):IntKind.i64.wrap x=x:=A5 h
theorem C38:J2 tyW=0:=by decide
theorem C2i:fSt stW=0:=by
 have:=C38;unfold tyW at this;simp[fSt,stW,this,D9,A0v,X8,C8,tyW,s9,A1Y,cl0,R8,A46,A41,I5,x4,w0,Q7,t6,K8,C3,B8,E9,B9,bs]
theorem C6K:fSt A6h=0:=by
 have:=C38;unfold tyW at this;simp[fSt,A6h,this,D9,A0v,X8,C8,tyW,s9,A1Y,cl0,R8,A46,A41,I5,x4,w0,Q7,t6,K8,C3,B8,E9,B9,bs]
theorem C4W:U6 stW e1W=0:=by simp[e1W,cl0,tyW,U6,X9,U1,doE,A1q,H2,E9,B9,bs,I5,x4,stW,w0,chE,A0e,A53,C8,L0,R8,W3,T5,J9,fLt]
theorem C2j:A06 stW e1W=A6h:=by simp[e1W,A6h,tyW,A06,H2,B9,bs,I5,x4,stW,w0,A0e,A53,C8,u6,B11,J9,fLt,A5t]
theorem C16:U6 stW e2W=4:=by simp[e2W,cl0,tyW,U6,X9,U1,doE,A1q,H2,E9,B9,bs,I5,x4,stW,w0,C8,R8,Q7,t6,S1,C3,B8,B73]
theorem C4X:U6 A6h e2W=0:=by simp[e2W,cl0,tyW,U6,X9,U1,doE,A1q,H2,E9,B9,bs,I5,x4,A6h,w0,C8,R8,Q7,t6,S1,C3,B8,B73]
theorem C2k:A06 A6h e2W=C2h:=by simp[e2W,A6h,C2h,cl0,tyW,A06,H2,B9,bs,I5,x4,w0]
theorem C4Y:U6 stW e3W=0:=by simp[e3W,cl0,tyW,U6,X9,U1,doE,A1q,H2,E9,B9,bs,I5,x4,stW,w0,chE,A0e,A53,C8,L0,R8,W3,T5,J9,fLt]
theorem C4Z:A6g stW e3W=⟨3,0,3,0,5,[]⟩:=by simp[A6g,B16,B9c,e3W,H2,B9,bs,I5,x4,stW,w0,A0e,A53,C8,tyW]
theorem C5u(id:Nat):A2 Tryz.prog 63 [D7 stW,K7 e1W] [] id (.tup [D7 A6h,.int .i64 0]) []:=by
 have:=B17 stW e1W id C2i C4W;rw[C2j] at this;exact this
theorem C5v(id:Nat):A2 Tryz.prog 63 [D7 stW,K7 e2W] [] id (.tup [eS0,.int .i64 4]) []:=by
 have:=B9e stW e2W id C2i (by rw[C16]; decide);rw[C16] at this;exact this
theorem C5w(id:Nat):A2 Tryz.prog 63 [D7 A6h,K7 e2W] [] id (.tup [D7 C2h,.int .i64 0]) []:=by
 have:=B17 A6h e2W id C6K C4X;rw[C2k] at this;exact this
theorem C4a(id:Nat):A2 Tryz.prog 64 [D7 stW,K7 e3W] [] id (.tup [K7 ⟨3,0,3,0,5,[]⟩,.int .i64 0]) []:=by
 have h0:A2D stW e3W=0:=by rw[C2E C2i,C4Y]
 have:=C2F stW e3W id (by unfold B4W I64 stW cl0; simp);have h1:B4b stW e3W=⟨3,0,3,0,5,[]⟩:=by unfold B4b; rw[zf (by simpa using h0),C4Z]
 have h2:B4a stW e3W=0:=by unfold B4a; rw[zf (by simpa using h0)]; rfl
 rw[h1,h2] at this;exact this
theorem A91(id:Nat):A2 Tryz.prog 23 [] [] id (.bool true) []:=by
 have hw:=fun id=>C15 id;have h1:=fun id=>C5u id;have h2:=fun id=>C5v id;have h3:=fun id=>C5w id;have h4:=fun id=>C4a id;have h5:=fun id=>m3 stW id;rw[C2i] at h5;simp only[D7,K7,e1W,e2W,e3W,eS0] at *;refine w23.e.1 fun E hP hR hl hid=>?_;simp[w23];(refine yH rfl (hw _) ?_; simp);(refine yH rfl (h1 _) ?_; simp);(refine yH rfl (hw _) ?_; simp);(refine yH rfl (h2 _) ?_; simp);(refine yH rfl (h3 _) ?_; simp);(refine yH rfl (hw _) ?_; simp);(refine yH rfl (h4 _) ?_; simp);(refine yH rfl (hw _) ?_; simp);(refine yC rfl (h5 _) ?_; simp[A6h,C2h,T4,eCl,A0c,A1w]);exact yP hR
def txA:List UInt8:=[123,32,109,97,107,101,40,116,121,112,101,58,32,34,65,34,44,32,105,100,58,32,51,41,32,115,101,116,40,116,121,112,101,58,32,34,65,34,44,32,105,100,58,32,51,44,32,102,105,101,108,100,58,32,34,110,34,44,32,110,117,109,98,101,114,58,32,53,41,32,125]
def txB:List UInt8:=[123,32,115,101,116,40,116,121,112,101,58,32,34,65,34,44,32,105,100,58,32,51,44,32,102,105,101,108,100,58,32,34,110,34,44,32,110,117,109,98,101,114,58,32,54,41,32,125]
def txX:List UInt8:=[123,32,65,32,123,32,110,32,125,32,125]
def txY:List UInt8:=[123,32,65,40,105,100,58,32,51,41,32,123,32,110,32,125,32,125]
def anX:List UInt8:=[123,34,65,34,58,91,123,34,110,34,58,53,125,93,125]
def anY:List UInt8:=[123,34,65,34,58,123,34,110,34,58,54,125,125]
def dkA:Dk:=⟨[[0,16,0,1,2,1,0,0,3,3,0,0,3,0,59,154,202,4]],18⟩
def dkB:Dk:=⟨[[0,16,0,1,2,1,0,0,3,3,0,0,3,0,59,154,202,4,0,12,0,2,1,3,0,0,3,0,59,154,202,5]],32⟩
theorem kA:A0T tyW ⟨[],0⟩ 1 txA=⟨dkA,0⟩:=by kernel_rfl
theorem kB:A0T tyW dkA 2 txB=⟨dkB,0⟩:=by kernel_rfl
theorem kC:A0T tyW dkB 2 [63]=⟨dkB,0⟩:=by kernel_rfl
theorem kX:A90 tyW dkB txX 1=(anX,0):=by kernel_rfl
theorem kY:A90 tyW dkB txY 2=(anY,0):=by kernel_rfl
theorem kO:opE tyW dkB=0:=by kernel_rfl
theorem kS:(opS tyW dkB).things.length=1:=by kernel_rfl
theorem kL:(H3 dkB.seg).length=2:=by kernel_rfl
theorem B4w(l:List Ty)(n:Int)(text:List UInt8)(id:Nat):A2 Tryz.prog 15 [.sl (l.map I8),.agg [.nils,.int .i64 0],.int .i64 n,.str text] [] id (.tup [eDk (A0T l ⟨[],0⟩ n text).d,.int .i64 (A0T l ⟨[],0⟩ n text).e]) []:=by
 refine (A1K l ⟨[],0⟩ n text id).nilD rfl fun i x y hx hy G w v h=>?_;match i,hx,hy with
 | 0,hx,hy=>simp at hx hy; subst hx hy; exact h
 | 1,hx,hy=>simp at hx hy; subst hx hy; exact C4U 0 G w v h
 | 2,hx,hy=>simp at hx hy; subst hx hy; exact h
 | 3,hx,hy=>simp at hx hy; subst hx hy; exact h
 | i+4,hx,hy=>simp at hx
theorem B1i(id:Nat):A2 Tryz.prog 9 [] [] id (.bool true) []:=by
 have hT:=fun id=>B3W id;have h1:=fun id=>B4w tyW 1 txA id;have h2:=fun id=>A1K tyW dkA 2 txB id;have h3:=fun id=>A1K tyW dkB 2 [63] id;have h4:=fun id=>B6K tyW dkB txX 1 id;have h5:=fun id=>B6K tyW dkB txY 2 id;have h6:=fun id=>A8f tyW dkB id;have h7:=fun id=>A6L dkB dkB id (by decide);rw[kA] at h1;rw[kB] at h2;rw[kC] at h3;rw[kX] at h4;rw[kY] at h5;rw[show A2b dkB dkB=true from (A7n _ _).2 rfl] at h7;have hs:=kS;have hbl:=kL;rw[kO,show B4t 0 (H3 dkB.seg) = .sl ((H3 dkB.seg).map Y9) from rfl,show A1H 0 (opS tyW dkB) = .agg [.sl ((opS tyW dkB).types.map I8),.sl ((opS tyW dkB).things.map T4)] from rfl] at h6;generalize opS tyW dkB=s at *;generalize H3 dkB.seg=bs at *;generalize tyW.map I8=ty at *;unfold eDk at *;generalize dkB=b at *;generalize dkA=a at *;unfold txA at h1;unfold txB at h2;unfold txX anX at h4;unfold txY anY at h5;refine w9.e.1 fun E hP hR hl hid=>?_;simp[w9];(refine yH rfl (hT _) ?_; simp);(refine yH rfl (h1 _) ?_; simp);(refine yH rfl (hT _) ?_; simp);(refine yH rfl (h2 _) ?_; simp);(refine yH rfl (hT _) ?_; simp);(refine yH rfl (h3 _) ?_; simp);(refine yH rfl (hT _) ?_; simp);(refine yH rfl (h4 _) ?_; simp);(refine yH rfl (hT _) ?_; simp);(refine yH rfl (h5 _) ?_; simp);(refine yH rfl (hT _) ?_; simp);(refine yH rfl (h6 _) ?_; simp);(refine yG rfl (h7 _) ?_; simp);refine yE hR [] (by simp[hs,hbl,A4 hid]) fun hrn=>⟨?_,?_,?_,?_,?_,?_⟩<;>(try simp[hs,hbl,A4 hid])
theorem B7v{l:List (List UInt8)}(h:(C6 (B6 l) 0).last=(B6 l).length):whole l=⟨l,(B6 l).length⟩:=by
 unfold whole A2s;rw[h,uo,A9d]
theorem B7w{l:List Ty}{d x:Dk}{n:Int}(c:C5t l d x n)(other:List UInt8):A0T l x n other=⟨x,0⟩:=by
 have h0:=A0Q.2 c.now;have hw:=B7v c.lst;have ha:(H3 x.seg).any (fun b=>b.number==n)=true:=by
  rcases c.bts with⟨a,b⟩|⟨a,ev,b⟩
  ·rw[b]; exact a
  ·rw[b]; simp
 unfold A0T;rw[zf (fun g=>g h0),zf (fun g=>g c.rng),zj ha,hw];have:=c.syn;cases x
 simp at this ⊢;exact this.symm
theorem B3X(l:List Ty)(d:Dk)(text other:List UInt8)(n:Int)(id:Nat):A2 Tryz.prog 8 [.sl (l.map I8),eDk d,.str text,.str other,.int .i64 n] [] id (.bool true) []:=by
 have hB:=fun id=>B1i id;have hD:=fun id=>A91 id;have h1:=fun id=>A1K l d n text id;by_cases e1:(A0T l d n text).e=0
 rotate_left
 ·have z1:=C4V e1;unfold eDk at *;rw[z1] at h1;generalize (A0T l d n text).e=a at *;refine w8.e.1 fun E hP hR hl hid=>?_;simp[w8];(refine yH rfl (hB _) ?_; simp);(refine yG rfl (hD _) ?_; simp);(refine yH rfl (h1 _) ?_; simp);refine A9 (by simpa using e1) ?_;simp;exact yP hR
 have c:=C4S e1;generalize hx:(A0T l d n text).d=x at *;have h2:=fun id=>A1K l x n other id;rw[B7w c] at h2;rw[e1] at h1;have hsz:=A02 (d:=x) (by rw[c.now.disk]; decide);have hO:=fun id=>A8f l x id;have hOd:=fun id=>A8f l d id;have hC:=fun id=>m3 (opS l x) id;rw[(C35 (A0Q.2 c.now)).1.st] at hC;have h7:=fun id=>A6L x x id (by omega);rw[show A2b x x=true from (A7n _ _).2 rfl] at h7;have hbs:=A3y c.was.disk;have h8:=fun id=>A7i (H3 d.seg) (H3 d.seg) id (by omega) (fun y hy=>by have:=(A18 (hbs.2 y hy)).1; omega);rw[(A3p B47).2 rfl] at h8;rw[A0Q.2 c.now,show B4t 0 (H3 x.seg) = .sl ((H3 x.seg).map Y9) from rfl,show A1H 0 (opS l x)=D7 (opS l x) from rfl] at hO;rw[A0Q.2 c.was,show B4t 0 (H3 d.seg) = .sl ((H3 d.seg).map Y9) from rfl,show A1H 0 (opS l d)=D7 (opS l d) from rfl] at hOd;have hxl:=A3y c.now.disk;have hcb:=c.bts;unfold D7 at hC hO hOd;generalize (opS l x).types.map I8=xa at *;generalize (opS l x).things.map T4=xb at *;generalize (opS l d).types.map I8=da at *;generalize (opS l d).things.map T4=db at *;generalize H3 x.seg=X at *;generalize H3 d.seg=W at *;have hw1:IntKind.i64.wrap ((W.length:Int)+1)=((W.length:Nat):Int)+1:=A5 (by omega);have hw2:((W.length:Int)<=W.length+1)=True:=by simp; omega
 have hw3:((W.length:Int)+1<W.length)=False:=by simp; omega
 unfold eDk at *;rcases hcb with⟨_,hX⟩|⟨_,ev,hX⟩
 ·subst hX;have tx:List.take X.length (List.map Y9 X)=List.map Y9 X:=by rw[zq (by simp)]
  simp only[Y9] at *;refine w8.e.1 fun E hP hR hl hid=>?_;simp[w8];(refine yH rfl (hB _) ?_; simp);(refine yG rfl (hD _) ?_; simp);(refine yH rfl (h1 _) ?_; simp);(refine yH rfl (h2 _) ?_; simp);(refine yH rfl (hO _) ?_; simp);(refine yG rfl (h7 _) ?_; simp);(refine yG rfl (hC _) ?_; simp);(refine yC rfl (hOd _) ?_; simp[hw1,hw2,hw3,tx]);refine⟨fun _ _=>rfl,?_⟩;(refine yG rfl (h8 _) ?_; simp)
  trace_state
  exact yP hR
 ·subst hX;have tx:List.take W.length (List.map Y9 W++[Y9 ⟨n,ev⟩])=List.map Y9 W:=by rw[List.take_left' (by simp)]
  simp only[Y9,wn,ym,uc] at *;refine w8.e.1 fun E hP hR hl hid=>?_;simp[w8];(refine yH rfl (hB _) ?_; simp);(refine yG rfl (hD _) ?_; simp);(refine yH rfl (h1 _) ?_; simp);(refine yH rfl (h2 _) ?_; simp);(refine yH rfl (hO _) ?_; simp);(refine yG rfl (h7 _) ?_; simp);(refine yG rfl (hC _) ?_; simp);(refine yC rfl (hOd _) ?_; simp[hw1,hw2,hw3,tx]);refine⟨fun y hy=>by rcases hy with⟨a,_,rfl⟩|rfl<;>rfl,?_⟩;(refine yG rfl (h8 _) ?_; simp)
  trace_state
  exact yP hR
end Go.Am
namespace Go.Proofs.YtphjabjjnncebaaGreatDoor
open Go Go.Am Go.RowKit
theorem Tryz.own:ownKnob Tryz.prog.godebug=none:=by kernel_rfl
theorem Tryz.laidOut:laidOutB Tryz.prog=true:=by kernel_rfl
noncomputable def tys(fn:Func):List TypeId:=B8e Tryz.prog 8 fn.params.toList
theorem C2l{n:Nat}{x:AV}(h:A0p Tryz.prog n 122 x):∃f:Am.Fd,x=T2 f:=by
 obtain⟨m,ys,rfl,rfl,h0⟩:=B0h Tryz.underlying122 h;obtain⟨a,ys,rfl,ha,h0⟩:=O3 h0;obtain⟨b,ys,rfl,hb,h0⟩:=O3 h0;obtain⟨c,ys,rfl,hc,h0⟩:=O3 h0;obtain rfl:=A3i h0;obtain⟨a,rfl,_⟩:=A26 Tryz.underlying9 ha;obtain⟨b,rfl,_⟩:=A7a Tryz.underlying3 hb;obtain⟨c,rfl,_⟩:=A26 Tryz.underlying9 hc;exact⟨⟨a,b,c⟩,rfl⟩
theorem C2m{n:Nat}{x:AV}(h:A0p Tryz.prog n 62 x):∃t:Am.Ty,x=I8 t:=by
 obtain⟨m,ys,rfl,rfl,h0⟩:=B0h Tryz.underlying62 h;obtain⟨a,ys,rfl,ha,h0⟩:=O3 h0;obtain⟨b,ys,rfl,hb,h0⟩:=O3 h0;obtain rfl:=A3i h0;obtain⟨a,rfl,_⟩:=A26 Tryz.underlying9 ha;obtain⟨k,xs,rfl,rfl,hl,hx⟩:=B0g Tryz.underlying60 hb;obtain⟨l,rfl⟩:=A2U fun y hy=>C2l (hx y hy);exact⟨⟨a,l⟩,rfl⟩
theorem C17{n:Nat}{x:AV}(h:A0p Tryz.prog n 22 x):∃l:List Am.Ty,x = .sl (l.map I8):=by
 obtain⟨k,xs,rfl,rfl,hl,hx⟩:=B0g Tryz.underlying22 h;obtain⟨l,rfl⟩:=A2U fun y hy=>C2m (hx y hy);exact⟨l,rfl⟩
theorem C2n{n:Nat}{x:AV}(h:A0p Tryz.prog n 25 x):∃d:Dk,x=eDk d/\d.seg.length<=reachBytes:=by
 obtain⟨m,ys,rfl,rfl,h0⟩:=B0h Tryz.underlying25 h;obtain⟨a,ys,rfl,ha,h0⟩:=O3 h0;obtain⟨b,ys,rfl,hb,h0⟩:=O3 h0;obtain rfl:=A3i h0;obtain⟨k,xs,rfl,rfl,hl,hx⟩:=B0g Tryz.underlying23 ha;obtain⟨b,rfl,_⟩:=A7a Tryz.underlying3 hb;obtain⟨l,rfl⟩:=A2U (f:=AV.str) fun y hy=>let ⟨s,h,_⟩:=A26 Tryz.underlying9 (hx y hy); ⟨s,h⟩;exact⟨⟨l,b⟩,rfl,by simpa using hl⟩
theorem A5O{P:Program}{W:World}:∀{l:List (String×DataW Unit)} {ps:List MemPlace},DataW.LaidVars P W l ps->∀x∈l,∃g t cs fuel p,P.globalNamed x.1=some g/\(P.globals[g]?).map (·.type)=some t/\W.var? P x.1=some cs/\DataW.trod (fun _=>()) P W 0 (fun _=>true) false fuel t cs.toList=some (x.2,p)
 | [],_,_,x,hx=>by cases hx
 | (n,d)::r,ps,⟨g,t,cs,fuel,p,q,h1,h2,h3,h4,h5,_⟩,x,hx=>by
  rcases zh.1 hx with rfl|hx
  ·exact⟨g,t,cs,fuel,p,h1,h2,h3,h4⟩
  ·exact A5O h5 x hx
theorem B3Y{P:Program}{W:World}{g t:Nat}{name T:String}{m:Array (String×TypeId)}{cs:Array Value}{d:DataW Unit}{fuel:Nat}{p:List MemPlace}(hu:P.underlying t=some (.interface m))(hg:P.globalNamed name=some g)(hv:W.var? P name=some cs)
  (h:DataW.trod (fun _=>()) P W 0 (fun _=>true) false fuel t cs.toList=some (.iface T d,p)):∃v,W.cell? ⟨g,0,none⟩=some v/\(v = .nilIface\/∃te pe,v = .iface te pe):=by
 have hc:∃u v,cs.toList=[.iface u v]:=by
  cases fuel with
  | zero=>cases h
  | succ fuel =>
   simp only[DataW.trod,hu] at h;split at h
   all_goals first|cases h; done|exact⟨_,_,by assumption⟩|(simp_all; done)|skip
 obtain⟨u,v,hc⟩:=hc;refine⟨.iface u v,?_,.inr ⟨u,v,rfl⟩⟩;unfold World.var? at hv;rw[hg] at hv;simp only[um] at hv;unfold World.cell?;split at hv
 ·rename_i cs' e f hh;injection hv with hv
  subst hv;rw[hh];have:cs' = #[.iface u v]:=by cases cs'; simp at hc ⊢; exact hc
  rw[this]; rfl
 ·cases hv
noncomputable abbrev C18:List (String×DataW Unit):=Rows.deskForeverUptoRow.laid
theorem B4x{W:World}(h:laidMetH Tryz.prog C18 W):laidMet Tryz.prog C18 W:=h
theorem B7x{W:World}(h:laidMetH Tryz.prog C18 W):A6W Tryz.prog W:=by
 obtain⟨ps,hv,_,_⟩:=B4x h;refine⟨fun t ht g hg=>?_,fun n hn g hg=>?_⟩
 ·skip;rw [show t = ("internal/strconv.uint64pow10", .u64, Lib.pow10Tab) by simpa [C39] using ht];obtain ⟨g', t', cs, fuel, p, h1, h2, h3, h4⟩ := A5O hv ("internal/strconv.uint64pow10", Lib.tabData .u64 Lib.pow10Tab) (.tail _ (.tail _ (.head _)));obtain rfl := wg ((show Tryz.prog.globalNamed "internal/strconv.uint64pow10" = some 0 by kernel_rfl).symm.trans h1);obtain rfl:=wg ((show (Tryz.prog.globals[0]?).map (·.type)=some 350 by kernel_rfl).symm.trans h2);unfold Lib.TabIs;rw[h3,←Lib.cells_of_tab Tryz.underlying350 Tryz.underlying330 (by kernel_rfl) (by kernel_rfl) h4]
 ·simp only[C1B,zh,yn,or_false] at hn;rcases hn with rfl|rfl
  ·skip;obtain ⟨g', t', cs, fuel, p, h1, h2, h3, h4⟩ := A5O hv ("strconv.ErrSyntax", Rows.laid_strconv_ErrSyntax) (.tail _ (.tail _ (.tail _ (.tail _ (.head _)))));obtain rfl := wg ((show (Tryz.prog.globalNamed "strconv.ErrSyntax") = some 2 by kernel_rfl).symm.trans h1);obtain rfl:=wg ((show (Tryz.prog.globals[2]?).map (·.type)=some 244 by kernel_rfl).symm.trans h2);obtain rfl:=wg (h1.symm.trans hg);exact B3Y Tryz.underlying244 h1 h3 h4
  ·skip;obtain ⟨g', t', cs, fuel, p, h1, h2, h3, h4⟩ := A5O hv ("strconv.ErrRange", Rows.laid_strconv_ErrRange) (.tail _ (.tail _ (.tail _ (.head _))));obtain rfl := wg ((show (Tryz.prog.globalNamed "strconv.ErrRange") = some 3 by kernel_rfl).symm.trans h1);obtain rfl:=wg ((show (Tryz.prog.globals[3]?).map (·.type)=some 244 by kernel_rfl).symm.trans h2);obtain rfl:=wg (h1.symm.trans hg);exact B3Y Tryz.underlying244 h1 h3 h4
def B4y:DataW Unit->Array Value
 | .agg l=>(l.map fun | .lit (.int k n)=>Value.int k n|_=>undef).toArray
 | _=>#[]
def C5x:DataW Unit->Value
 | .iface _ (.ptr (.agg [.lit (.string s)]))=>.string ⟨⟨s⟩⟩
 | _=>undef
def A3a(vs:Array Value):Obj->Obj
 | .cells _ t frozen=>.cells vs t frozen
 | o=>o
noncomputable def C19(h:Array Obj):Array Obj :=
 (((((h.modify 0 (A3a (B4y Rows.laid_internal_strconv_uint64pow10))).modify 4 (A3a (B4y Rows.laid_math_bits_deBruijn32tab))).modify 5 (A3a (B4y Rows.laid_math_bits_deBruijn64tab))).modify
  2 (A3a #[.iface 412 (.pointer (some ⟨h.size,0,none⟩))])).modify 3 (A3a #[.iface 412 (.pointer (some ⟨h.size+1,0,none⟩))])) ++
  #[.cells #[C5x Rows.laid_strconv_ErrSyntax] 414 (0,0),.cells #[C5x Rows.laid_strconv_ErrRange] 414 (0,0)]
noncomputable def A68(os:Os):World :=
 { World.holding Tryz.prog os ⟨#[],#[],[]⟩ with heap:=C19 (World.holding Tryz.prog os ⟨#[],#[],[]⟩).heap }
theorem B1j{P:Program}{f:FuncId}{fn:Func}{s:ChangeSpec}{c:OpenClaim}
  (h0:(c.wf (OpenSpec.ofChange s)&&laidOutB P&&mapsRowed P&&fn.params.all (P.readableRec ·)&&namedTie P c.named s.vars&&(c.stops==[])&&(P.stops==[])&&(c.knobs==[])&&(P.stopKnobs==[]))=true)
  (h1:(c.inPlace==P.inPlace f)=true) (h2:(c.unfollowed==P.unfollowed f)=true) (h3:(c.recurses==P.recurses f)=true) (h4:(c.named==P.varsNamed f)=true)
  (h5:((c.maps==(fn.params.toList++s.plain.varTypes P).any (P.mapsRec ·))&&(c.ifaces==(fn.params.toList++s.plain.varTypes P).any (P.ifacesRec ·))&&(c.mapsOut==P.mapsAmong fn.resultTypes.toList) &&
   (c.loops==(fn.params.toList++s.plain.varTypes P).any (P.loopsFrom ·))&&(c.wideKeys==(fn.params.toList++s.plain.varTypes P++fn.resultTypes.toList).any (P.wideKeysFrom ·)) &&
   s.vars.all (P.varReadable ·)&&fn.resultTypes.all (fun t=>P.readableRec t&&decide (t<P.types.size))&&(c.ifacesOut==fn.resultTypes.toList.any (P.ifacesRec ·))&&(c.loopsOut==fn.resultTypes.toList.any (P.loopsFrom ·)))=true)
  (h6:(c.plainKeys==P.plainKeys)=true)
  (h7:(c.shortTexts.isNone&&P.stopsHeard&&P.mayEnter&&(c.lifted==P.liftsFinal)&&(P.make==some c.make)&&(c.kinds==(if c.domain.isEmpty then [] else fn.params.toList.map fun t=>match P.underlying t with|some (.int k)=>some k|_=>none))&&(c.pinned==c.pinnedBy) &&
   (c.veiled==(fn.params.toList++s.plain.varTypes P++fn.resultTypes.toList).any (P.veiledRec ·))&&c.veiledFits P fn.params.toList (fn.params.toList++s.plain.varTypes P++fn.resultTypes.toList))=true):joinedFacts P f fn s c=true:=by
 unfold joinedFacts;simp only[yg] at h0 h5 h7 ⊢;obtain⟨⟨⟨⟨⟨⟨⟨⟨a1,a2⟩,a3⟩,a4⟩,a5⟩,a6⟩,a7⟩,a8⟩,a9⟩:=h0;obtain⟨⟨⟨⟨⟨⟨⟨⟨b1,b2⟩,b3⟩,b4⟩,b5⟩,b6⟩,b7⟩,b8⟩,b9⟩:=h5;obtain⟨⟨⟨⟨⟨⟨⟨⟨d1,d2⟩,d3⟩,d4⟩,d5⟩,d6⟩,d7⟩,d8⟩,d9⟩:=h7;exact⟨⟨⟨⟨⟨⟨⟨⟨⟨⟨⟨⟨⟨⟨⟨⟨⟨⟨⟨⟨⟨⟨⟨⟨⟨⟨⟨⟨⟨⟨⟨a1,a2⟩,a3⟩,a4⟩,a5⟩,a6⟩,a7⟩,a8⟩,a9⟩,h1⟩,h2⟩,h3⟩,h4⟩,b1⟩,b2⟩,b3⟩,b4⟩,b5⟩,b6⟩,b7⟩,b8⟩,b9⟩,h6⟩,d1⟩,d2⟩,d3⟩,d4⟩,d5⟩,d6⟩,d7⟩,d8⟩,d9⟩
end Go.Proofs.YtphjabjjnncebaaGreatDoor
