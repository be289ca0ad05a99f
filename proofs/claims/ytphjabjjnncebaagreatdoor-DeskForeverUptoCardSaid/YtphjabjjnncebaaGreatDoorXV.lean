/- Parts of the proof: an abstract machine for Go functions, and what functions of the program give back (Dk18, Dw8, Ss1, Ss2, Sb1, Dw9, Fb, Fv, Fd, Lw4, Jf). No condition. -/
import Derived.Test.YtphjabjjnncebaaGreatDoorXU
import Derived.Test.YtphjabjjnncebaaGreatDoorXN
import Derived.Test.YtphjabjjnncebaaGreatDoorXG
import Derived.Test.YtphjabjjnncebaaGreatDoorXO
import Derived.Test.YtphjabjjnncebaaGreatDoorXI
import Derived.Test.YtphjabjjnncebaaGreatDoorXE
import Derived.Test.YtphjabjjnncebaaGreatDoorRows
import Derived.Test.YtphjabjjnncebaaGreatDoorXJ
import Derived.Deep.CondSized
import Derived.Test.YtphjabjjnncebaaGreatDoorXH
import Derived.Test.YtphjabjjnncebaaGreatDoorXP
import Derived.Test.YtphjabjjnncebaaGreatDoorCards
import Derived.Test.YtphjabjjnncebaaGreatDoorTie
import Derived.Deep.DeepHandedRow
import Derived.Lib.LaidTab
import Derived.LaidLaws
set_option maxRecDepth 100000
set_option linter.all false
set_option maxHeartbeats 16000000
namespace Go.Am
open Go Go.Proofs Go.RowKit
theorem C47{G:Gh}{w:World}{v:Value}(h:RV G w .nils v):RV G w (.sl []) v:=by
 cases h
 exact .sl [] none 0 0 (fun _ _=>undef) (Nat.le_refl _) (by simp[maxLen]) (fun _=>⟨rfl,rfl⟩) (fun i x hi=>by simp at hi) (fun a i x j y _ hi=>by simp at hi) (fun a i x j y _ hi=>by simp at hi) (fun i x j y hi=>by simp at hi)
theorem B7e{G:Gh}{w:World}{v:Value}{cs ds:List AV}(h:RV G w (.agg cs) v)(hl:cs.length=ds.length)(hh:∀(i:Nat) x y,cs[i]?=some x->ds[i]?=some y->x=y\/(x = .nils/\y = .sl [])):RV G w (.agg ds) v:=by
 cases h with|agg _ vs hs hx =>
 refine .agg ds vs (hl.symm.trans hs) fun i y hy=>?_;obtain⟨x,hx'⟩:∃x,cs[i]?=some x:=⟨_,List.getElem?_eq_getElem (by rw[hl]; exact (List.getElem?_eq_some_iff.1 hy).1)⟩;rcases hh i x y hx' hy with rfl|⟨rfl,rfl⟩
 ·exact hx i x hx'
 ·exact C47 (hx i _ hx')
theorem A2.nilD{P:Program}{f:Nat}{args args':List AV}{rd:List (Nat×Bx)}{id:Nat}{res:AV}{wr:List (Nat×Option Bx)}(h:A2 P f args rd id res wr)(hl:args'.length=args.length)
  (ha:∀(i:Nat) x y,args'[i]?=some x->args[i]?=some y->∀(G:Gh) w v,RV G w x v->RV G w y v):A2 P f args' rd id res wr:=by
 refine⟨h.1,fun C G bx w vs nb hs hv hh hnb hid=>h.2 C G bx w vs nb hs ⟨hl.symm.trans hv.1,fun i y hy=>?_⟩ hh hnb hid⟩;obtain⟨x,hx'⟩:∃x,args'[i]?=some x:=⟨_,List.getElem?_eq_getElem (by rw[hl]; exact (List.getElem?_eq_some_iff.1 hy).1)⟩;exact ha i x y hx' hy G w _ (hv.2 i x hx')
theorem C0p(n:Int)(G:Gh)(w:World)(v:Value)(h:RV G w (.agg [.nils,.int .i64 n]) v):RV G w (.agg [.sl [],.int .i64 n]) v:=by
 refine B7e h rfl fun i x y hx hy=>?_;match i,hx,hy with
 | 0,hx,hy=>simp at hx hy; exact .inr ⟨hx.symm,hy.symm⟩
 | 1,hx,hy=>simp at hx hy; exact .inl (hx.symm.trans hy)
 | i+2,hx,hy=>simp at hx
theorem B4f(b:Bt)(id:Nat):A2 Tryz.prog 87 [.agg [.nils,.int .i64 0],p7 b] [] id (.tup [eDk (F1 ⟨[],0⟩ b).d,.int .i64 (F1 ⟨[],0⟩ b).e]) []:=by
 refine (A5X ⟨[],0⟩ b id).nilD rfl fun i x y hx hy G w v h=>?_;match i,hx,hy with
 | 0,hx,hy=>simp at hx hy; subst hx hy; exact C0p 0 G w v h
 | 1,hx,hy=>simp at hx hy; subst hx hy; exact h
 | i+2,hx,hy=>simp at hx
theorem C48(d:Dk)(h:C6 d=0):0<=d.syn/\d.syn<=(B3 d.seg).length:=⟨(p8 h).2.1,(p8 h).2.2.1⟩
theorem A5z(d:Dk)(keep:Int)(id:Nat):A2 Tryz.prog 33 [eDk d,.int .i64 keep] [] id (.tup [eDk (T6 d keep).d,.int .i64 (T6 d keep).e]) []:=B8d d keep id (C48 d)
theorem B1X(id:Nat):A2 Tryz.prog 32 [] [] id (.bool true) []:=by
 have hlot:=fun id=>C3G id;have h1:=B4f P4;have h2:=A5z ⟨[A7 P4],0⟩ 5;have h3:=A5X ⟨[(A7 P4).take 5],0⟩ P4;have h4:=B5C ⟨[(A7 P4).take 5],0⟩;have h5:=B5D ⟨[A7 P4],0⟩;have h6:=A5z ⟨[A7 P4],17⟩ 0;have h7:=A1u ⟨[(A7 P4).take 5],0⟩;have h8:=A6E ⟨[A7 P4],17⟩ ⟨[A7 P4],17⟩;rw[C3J] at h1;rw[C3K] at h2;rw[C3L] at h3;rw[B3z,if_pos rfl,if_pos rfl,B40.1,B40.2.1,B40.2.2] at h4;rw[C3M] at h5;rw[C3N] at h6;rw[B3z] at h7;rw[(A7d _ _).2 rfl] at h8;simp only[eDk,p7,List.map_cons,List.map_nil] at *;generalize A7 P4=L at *;refine w32.e.1 fun E hP hR hl hid=>?_;simp[w32];(refine yH rfl (hlot _) ?_; simp);(refine yH rfl (h1 _) ?_; simp);(refine yH rfl (h2 _) ?_; simp);(refine yH rfl (hlot _) ?_; simp);(refine yH rfl (h3 _) ?_; simp);(refine yH rfl (h4 _) ?_; simp);(refine yH rfl (h5 _) ?_; simp);(refine yH rfl (h6 _) ?_; simp);(refine yG rfl (h7 _) ?_; simp);(refine yG rfl (h8 _ (by simp)) ?_; simp);exact yP hR
theorem C49{l:List Ty}{d:Dk}{n:Int}{text:List UInt8}(h:(A0n l d n text).e≠0):(A0n l d n text).d.seg=[]:=by
 unfold A0n at h ⊢;split
 ·rfl
 split
 ·rfl
 split
 ·rename_i h1 h2 h3;rw[if_neg h1,if_neg h2,if_pos h3] at h;exact absurd rfl h
 rename_i h1 h2 h3;rw[if_neg h1,if_neg h2,if_neg h3] at h;unfold B1W at h ⊢;cases hq:A3p text with
 | error e=>rfl
 | ok q =>
  rw[hq] at h;simp only at h ⊢;split
  ·rfl
  split
  ·rfl
  split
  ·rfl
  rename_i g1 g2 g3;rw[if_neg g1,if_neg g2,if_neg g3] at h;unfold A0S at h ⊢;split
  ·rfl
  split
  ·rfl
  rename_i k1 k2;rw[if_neg k1,if_neg k2] at h;exact absurd rfl h
theorem C4A{l:List Ty}{d:Dk}{n:Int}{text:List UInt8}(h:(A0Q l d text n).2≠0):(A0Q l d text n).1=[]:=by
 unfold A0Q at h ⊢;split
 ·rfl
 split
 ·rfl
 rename_i h1 h2;rw[if_neg h1,if_neg h2] at h;cases hq:A3p text with
 | error e=>rfl
 | ok q =>
  rw[hq] at h;simp only at h ⊢;split
  ·rfl
  split
  ·rename_i g1 g2;rw[if_neg g1,if_pos g2] at h;exact absurd rfl h
  ·rfl
theorem C0q{l:List Ty}{d:Dk}{n:Int}{text:List UInt8}(h:(A0Q l d text n).2=0):opE l d=0:=by
 refine Classical.byContradiction fun g=>?_;unfold A0Q at h;rw[if_pos g] at h;exact g h
theorem A8Z(hB:∀id,A2 Tryz.prog 9 [] [] id (.bool true) [])(l:List Ty)(d:Dk)(text other:List UInt8)(n number keep:Int)(id:Nat):A2 Tryz.prog 7 [.sl (l.map J3),eDk d,.str text,.str other,.int .i64 n,.int .i64 number,.int .i64 keep] [] id (.bool true) []:=by
 have hD:=fun id=>B1X id;have h1:=fun id=>A72 l d text n id;have h2:=fun id=>A2e l d number other id;by_cases e1:(A0Q l d text n).2=0
 rotate_left
 ·have z1:=C4A e1;unfold eDk at *;rw[z1] at h1;generalize (A0Q l d text n).2=a at *;refine w7.e.1 fun E hP hR hl hid=>?_;simp[w7];(refine yH rfl (hB _) ?_; simp);(refine yG rfl (hD _) ?_; simp);(refine yH rfl (h1 _) ?_; simp);refine B2 (by simpa using e1) ?_;simp;exact yP hR
 have hd:=C0q e1;by_cases e2:(A0n l d number other).e=0
 rotate_left
 ·have z2:=C49 e2;unfold eDk at *;rw[z2] at h2;rw[e1] at h1;generalize (A0Q l d text n).1=a at *;generalize A0n l d number other=x at *;refine w7.e.1 fun E hP hR hl hid=>?_;simp[w7];(refine yH rfl (hB _) ?_; simp);(refine yG rfl (hD _) ?_; simp);(refine yH rfl (h1 _) ?_; simp);(refine yH rfl (h2 _) ?_; simp);refine B2 (by simpa using e2) ?_;simp;exact yP hR
 have c:=C46 e2;generalize hx:(A0n l d number other).d=x at *;have ha:A0Q l x text n=A0Q l d text n:=by
  rcases c.bts with⟨_,b⟩|⟨_,ev,b⟩
  ·exact B3S hd (A23.2 c.now) (r:=[]) (by simpa using b) e1
  ·exact B3S hd (A23.2 c.now) b e1
 have h3:=fun id=>A72 l x text n id;have h4:=fun id=>A5z x keep id;rw[ha] at h3;rw[e2] at h2;rw[e1] at h1 h3;generalize (A0Q l d text n).1=a at *;by_cases hk:keep<0
 ·have z:T6 x keep=⟨⟨[],0⟩,3⟩:=by unfold T6; rw[if_neg (by simp[c.now.disk]),if_pos hk]
  rw[z] at h4;unfold eDk at *;refine w7.e.1 fun E hP hR hl hid=>?_;simp[w7];(refine yH rfl (hB _) ?_; simp);(refine yG rfl (hD _) ?_; simp);(refine yH rfl (h1 _) ?_; simp);(refine yH rfl (h2 _) ?_; simp);(refine yH rfl (h3 _) ?_; simp);(refine yH rfl (h4 _) ?_; simp);refine B2 (by simpa using hk) ?_;simp;exact yP hR
 ·have z:T6 x keep=⟨x,0⟩:=by rw[B8e c.now.disk (by omega),B7d c.syn (by omega)]
  rw[z] at h4;unfold eDk at *;refine w7.e.1 fun E hP hR hl hid=>?_;simp[w7];(refine yH rfl (hB _) ?_; simp);(refine yG rfl (hD _) ?_; simp);(refine yH rfl (h1 _) ?_; simp);(refine yH rfl (h2 _) ?_; simp);(refine yH rfl (h3 _) ?_; simp);(refine yH rfl (h4 _) ?_; simp);refine A0 (by simpa using hk) ?_;simp;(refine yH rfl (h3 _) ?_; simp);exact yP hR
deriving instance DecidableEq for Fd
deriving instance DecidableEq for Ty
deriving instance DecidableEq for Cl
deriving instance DecidableEq for Tg
deriving instance DecidableEq for I4
def tyW:List Ty:=[⟨[65],[⟨[110],1,[]⟩,⟨[116],2,[]⟩,⟨[98],3,[66]⟩,⟨[108],4,[65]⟩]⟩,⟨[66],[⟨[109],1,[]⟩]⟩]
theorem C0r(id:Nat):A2 Tryz.prog 35 [] [] id (.sl (tyW.map J3)) []:=by
 unfold tyW;simp only[List.map_cons,List.map_nil,J3,S7];refine w35.e.1 fun E hP hR hl hid=>?_;simp[w35];have hrn:H2 []:=by simp[A4 hid]
 rw[hR];refine K5 (by simp<;>rfl) (by simp[A4 hid]<;>exact⟨rfl,rfl⟩) [] hrn ⟨?_,?_,?_,?_,?_,?_⟩<;>(try simp[A4 hid]);exact B4 _ rfl
theorem w0(x:Int)(h : -9223372036854775808<=x/\x<=9223372036854775807):IntKind.i64.wrap x=x:=A5 h
def txA:List UInt8:=[123,32,109,97,107,101,40,116,121,112,101,58,32,34,65,34,44,32,105,100,58,32,51,41,32,115,101,116,40,116,121,112,101,58,32,34,65,34,44,32,105,100,58,32,51,44,32,102,105,101,108,100,58,32,34,110,34,44,32,110,117,109,98,101,114,58,32,53,41,32,125]
def txB:List UInt8:=[123,32,115,101,116,40,116,121,112,101,58,32,34,65,34,44,32,105,100,58,32,51,44,32,102,105,101,108,100,58,32,34,110,34,44,32,110,117,109,98,101,114,58,32,54,41,32,125]
def txX:List UInt8:=[123,32,65,32,123,32,110,32,125,32,125]
def txY:List UInt8:=[123,32,65,40,105,100,58,32,51,41,32,123,32,110,32,125,32,125]
def anX:List UInt8:=[123,34,65,34,58,91,123,34,110,34,58,53,125,93,125]
def anY:List UInt8:=[123,34,65,34,58,123,34,110,34,58,54,125,125]
def dkA:Dk:=⟨[[0,16,0,1,2,1,0,0,3,3,0,0,3,0,59,154,202,4]],18⟩
def dkB:Dk:=⟨[[0,16,0,1,2,1,0,0,3,3,0,0,3,0,59,154,202,4,0,12,0,2,1,3,0,0,3,0,59,154,202,5]],32⟩
theorem kA:A0n tyW ⟨[],0⟩ 1 txA=⟨dkA,0⟩:=by kernel_rfl
theorem kB:A0n tyW dkA 2 txB=⟨dkB,0⟩:=by kernel_rfl
theorem kC:A0n tyW dkB 2 [63]=⟨dkB,0⟩:=by kernel_rfl
theorem kX:A0Q tyW dkB txX 1=(anX,0):=by kernel_rfl
theorem kY:A0Q tyW dkB txY 2=(anY,0):=by kernel_rfl
theorem kO:opE tyW dkB=0:=by kernel_rfl
theorem kS:(opS tyW dkB).things.length=1:=by kernel_rfl
theorem kL:(H0 dkB.seg).length=2:=by kernel_rfl
theorem B4g(l:List Ty)(n:Int)(text:List UInt8)(id:Nat):A2 Tryz.prog 15 [.sl (l.map J3),.agg [.nils,.int .i64 0],.int .i64 n,.str text] [] id (.tup [eDk (A0n l ⟨[],0⟩ n text).d,.int .i64 (A0n l ⟨[],0⟩ n text).e]) []:=by
 refine (A2e l ⟨[],0⟩ n text id).nilD rfl fun i x y hx hy G w v h=>?_;match i,hx,hy with
 | 0,hx,hy=>simp at hx hy; subst hx hy; exact h
 | 1,hx,hy=>simp at hx hy; subst hx hy; exact C0p 0 G w v h
 | 2,hx,hy=>simp at hx hy; subst hx hy; exact h
 | 3,hx,hy=>simp at hx hy; subst hx hy; exact h
 | i+4,hx,hy=>simp at hx
theorem B1Y(id:Nat):A2 Tryz.prog 9 [] [] id (.bool true) []:=by
 have hT:=fun id=>C0r id;have h1:=fun id=>B4g tyW 1 txA id;have h2:=fun id=>A2e tyW dkA 2 txB id;have h3:=fun id=>A2e tyW dkB 2 [63] id;have h4:=fun id=>A72 tyW dkB txX 1 id;have h5:=fun id=>A72 tyW dkB txY 2 id;have h6:=fun id=>C0i tyW dkB id;have h7:=fun id=>A6E dkB dkB id (by decide);rw[kA] at h1;rw[kB] at h2;rw[kC] at h3;rw[kX] at h4;rw[kY] at h5;rw[show A36 dkB dkB=true from (A7d _ _).2 rfl] at h7;have hs:=kS;have hbl:=kL;rw[kO,show C0f 0 (H0 dkB.seg) = .sl ((H0 dkB.seg).map p7) from rfl,show A1d 0 (opS tyW dkB) = .agg [.sl ((opS tyW dkB).types.map J3),.sl ((opS tyW dkB).things.map X2)] from rfl] at h6;generalize opS tyW dkB=s at *;generalize H0 dkB.seg=bs at *;generalize tyW.map J3=ty at *;unfold eDk at *;generalize dkB=b at *;generalize dkA=a at *;unfold txA at h1;unfold txB at h2;unfold txX anX at h4;unfold txY anY at h5;refine w9.e.1 fun E hP hR hl hid=>?_;simp[w9];(refine yH rfl (hT _) ?_; simp);(refine yH rfl (h1 _) ?_; simp);(refine yH rfl (hT _) ?_; simp);(refine yH rfl (h2 _) ?_; simp);(refine yH rfl (hT _) ?_; simp);(refine yH rfl (h3 _) ?_; simp);(refine yH rfl (hT _) ?_; simp);(refine yH rfl (h4 _) ?_; simp);(refine yH rfl (hT _) ?_; simp);(refine yH rfl (h5 _) ?_; simp);(refine yH rfl (hT _) ?_; simp);(refine yH rfl (h6 _) ?_; simp);(refine yG rfl (h7 _) ?_; simp);refine yE hR [] (by simp[hs,hbl,A4 hid]) fun hrn=>⟨?_,?_,?_,?_,?_,?_⟩<;>(try simp[hs,hbl,A4 hid])
theorem A8a(l:List Ty)(d:Dk)(text other:List UInt8)(n number keep:Int)(id:Nat):A2 Tryz.prog 7 [.sl (l.map J3),eDk d,.str text,.str other,.int .i64 n,.int .i64 number,.int .i64 keep] [] id (.bool true) []:=A8Z B1Y l d text other n number keep id
end Go.Am
namespace Go.Proofs.YtphjabjjnncebaaGreatDoor
open Go Go.Am Go.RowKit
theorem Tryz.own:ownKnob Tryz.prog.godebug=none:=by kernel_rfl
theorem Tryz.laidOut:laidOutB Tryz.prog=true:=by kernel_rfl
noncomputable def tys(fn:Func):List TypeId:=B8M Tryz.prog 8 fn.params.toList
theorem C2L{n:Nat}{x:AV}(h:A0d Tryz.prog n 122 x):∃f:Am.Fd,x=S7 f:=by
 obtain⟨m,ys,rfl,rfl,h0⟩:=B0a Tryz.underlying122 h;obtain⟨a,ys,rfl,ha,h0⟩:=M2 h0;obtain⟨b,ys,rfl,hb,h0⟩:=M2 h0;obtain⟨c,ys,rfl,hc,h0⟩:=M2 h0;obtain rfl:=A3a h0;obtain⟨a,rfl,_⟩:=A1q Tryz.underlying9 ha;obtain⟨b,rfl,_⟩:=A2y Tryz.underlying3 hb;obtain⟨c,rfl,_⟩:=A1q Tryz.underlying9 hc;exact⟨⟨a,b,c⟩,rfl⟩
theorem C2M{n:Nat}{x:AV}(h:A0d Tryz.prog n 62 x):∃t:Am.Ty,x=J3 t:=by
 obtain⟨m,ys,rfl,rfl,h0⟩:=B0a Tryz.underlying62 h;obtain⟨a,ys,rfl,ha,h0⟩:=M2 h0;obtain⟨b,ys,rfl,hb,h0⟩:=M2 h0;obtain rfl:=A3a h0;obtain⟨a,rfl,_⟩:=A1q Tryz.underlying9 ha;obtain⟨k,xs,rfl,rfl,hl,hx⟩:=B0Z Tryz.underlying60 hb;obtain⟨l,rfl⟩:=A2J fun y hy=>C2L (hx y hy);exact⟨⟨a,l⟩,rfl⟩
theorem C0s{n:Nat}{x:AV}(h:A0d Tryz.prog n 22 x):∃l:List Am.Ty,x = .sl (l.map J3):=by
 obtain⟨k,xs,rfl,rfl,hl,hx⟩:=B0Z Tryz.underlying22 h;obtain⟨l,rfl⟩:=A2J fun y hy=>C2M (hx y hy);exact⟨l,rfl⟩
theorem C2N{n:Nat}{x:AV}(h:A0d Tryz.prog n 25 x):∃d:Dk,x=eDk d/\d.seg.length<=reachBytes:=by
 obtain⟨m,ys,rfl,rfl,h0⟩:=B0a Tryz.underlying25 h;obtain⟨a,ys,rfl,ha,h0⟩:=M2 h0;obtain⟨b,ys,rfl,hb,h0⟩:=M2 h0;obtain rfl:=A3a h0;obtain⟨k,xs,rfl,rfl,hl,hx⟩:=B0Z Tryz.underlying23 ha;obtain⟨b,rfl,_⟩:=A2y Tryz.underlying3 hb;obtain⟨l,rfl⟩:=A2J (f:=AV.str) fun y hy=>let ⟨s,h,_⟩:=A1q Tryz.underlying9 (hx y hy); ⟨s,h⟩;exact⟨⟨l,b⟩,rfl,by simpa using hl⟩
theorem A5F{P:Program}{W:World}:∀{l:List (String×DataW Unit)} {ps:List MemPlace},DataW.LaidVars P W l ps->∀x∈l,∃g t cs fuel p,P.globalNamed x.1=some g/\(P.globals[g]?).map (·.type)=some t/\W.var? P x.1=some cs/\DataW.trod (fun _=>()) P W 0 (fun _=>true) false fuel t cs.toList=some (x.2,p)
 | [],_,_,x,hx=>by cases hx
 | (n,d)::r,ps,⟨g,t,cs,fuel,p,q,h1,h2,h3,h4,h5,_⟩,x,hx=>by
  rcases List.mem_cons.1 hx with rfl|hx
  ·exact⟨g,t,cs,fuel,p,h1,h2,h3,h4⟩
  ·exact A5F h5 x hx
theorem B3T{P:Program}{W:World}{g t:Nat}{name T:String}{m:Array (String×TypeId)}{cs:Array Value}{d:DataW Unit}{fuel:Nat}{p:List MemPlace}(hu:P.underlying t=some (.interface m))(hg:P.globalNamed name=some g)(hv:W.var? P name=some cs)
  (h:DataW.trod (fun _=>()) P W 0 (fun _=>true) false fuel t cs.toList=some (.iface T d,p)):∃v,W.cell? ⟨g,0,none⟩=some v/\(v = .nilIface\/∃te pe,v = .iface te pe):=by
 have hc:∃u v,cs.toList=[.iface u v]:=by
  cases fuel with
  | zero=>cases h
  | succ fuel =>
   simp only[DataW.trod,hu] at h;split at h
   all_goals first|cases h; done|exact⟨_,_,by assumption⟩|(simp_all; done)|skip
 obtain⟨u,v,hc⟩:=hc;refine⟨.iface u v,?_,.inr ⟨u,v,rfl⟩⟩;unfold World.var? at hv;rw[hg] at hv;simp only[Option.bind_some] at hv;unfold World.cell?;split at hv
 ·rename_i cs' e f hh;injection hv with hv
  subst hv;rw[hh];have:cs' = #[.iface u v]:=by cases cs'; simp at hc ⊢; exact hc
  rw[this]; rfl
 ·cases hv
noncomputable abbrev C0t:List (String×DataW Unit):=Rows.deskForeverUptoRow.laid
theorem B4h{W:World}(h:laidMetH Tryz.prog C0t W):laidMet Tryz.prog C0t W:=h
theorem B7f{W:World}(h:laidMetH Tryz.prog C0t W):A6Q Tryz.prog W:=by
 obtain⟨ps,hv,_,_⟩:=B4h h;refine⟨fun t ht g hg=>?_,fun n hn g hg=>?_⟩
 ·skip;rw [show t = ("internal/strconv.uint64pow10", .u64, Lib.pow10Tab) by simpa [C2g] using ht];obtain ⟨g', t', cs, fuel, p, h1, h2, h3, h4⟩ := A5F hv ("internal/strconv.uint64pow10", Lib.tabData .u64 Lib.pow10Tab) (.tail _ (.tail _ (.head _)));obtain rfl := Option.some.inj ((show Tryz.prog.globalNamed "internal/strconv.uint64pow10" = some 0 by kernel_rfl).symm.trans h1);obtain rfl:=Option.some.inj ((show (Tryz.prog.globals[0]?).map (·.type)=some 350 by kernel_rfl).symm.trans h2);unfold Lib.TabIs;rw[h3,←Lib.cells_of_tab Tryz.underlying350 Tryz.underlying330 (by kernel_rfl) (by kernel_rfl) h4]
 ·simp only[C0w,List.mem_cons,List.not_mem_nil,or_false] at hn;rcases hn with rfl|rfl
  ·skip;obtain ⟨g', t', cs, fuel, p, h1, h2, h3, h4⟩ := A5F hv ("strconv.ErrSyntax", Rows.laid_strconv_ErrSyntax) (.tail _ (.tail _ (.tail _ (.tail _ (.head _)))));obtain rfl := Option.some.inj ((show (Tryz.prog.globalNamed "strconv.ErrSyntax") = some 2 by kernel_rfl).symm.trans h1);obtain rfl:=Option.some.inj ((show (Tryz.prog.globals[2]?).map (·.type)=some 244 by kernel_rfl).symm.trans h2);obtain rfl:=Option.some.inj (h1.symm.trans hg);exact B3T Tryz.underlying244 h1 h3 h4
  ·skip;obtain ⟨g', t', cs, fuel, p, h1, h2, h3, h4⟩ := A5F hv ("strconv.ErrRange", Rows.laid_strconv_ErrRange) (.tail _ (.tail _ (.tail _ (.head _))));obtain rfl := Option.some.inj ((show (Tryz.prog.globalNamed "strconv.ErrRange") = some 3 by kernel_rfl).symm.trans h1);obtain rfl:=Option.some.inj ((show (Tryz.prog.globals[3]?).map (·.type)=some 244 by kernel_rfl).symm.trans h2);obtain rfl:=Option.some.inj (h1.symm.trans hg);exact B3T Tryz.underlying244 h1 h3 h4
def B4i:DataW Unit->Array Value
 | .agg l=>(l.map fun | .lit (.int k n)=>Value.int k n|_=>undef).toArray
 | _=>#[]
def C5S:DataW Unit->Value
 | .iface _ (.ptr (.agg [.lit (.string s)]))=>.string ⟨⟨s⟩⟩
 | _=>undef
def A3S(vs:Array Value):Obj->Obj
 | .cells _ t frozen=>.cells vs t frozen
 | o=>o
noncomputable def C0u(h:Array Obj):Array Obj :=
 (((((h.modify 0 (A3S (B4i Rows.laid_internal_strconv_uint64pow10))).modify 4 (A3S (B4i Rows.laid_math_bits_deBruijn32tab))).modify 5 (A3S (B4i Rows.laid_math_bits_deBruijn64tab))).modify
  2 (A3S #[.iface 412 (.pointer (some ⟨h.size,0,none⟩))])).modify 3 (A3S #[.iface 412 (.pointer (some ⟨h.size+1,0,none⟩))])) ++
  #[.cells #[C5S Rows.laid_strconv_ErrSyntax] 414 (0,0),.cells #[C5S Rows.laid_strconv_ErrRange] 414 (0,0)]
noncomputable def A60(os:Os):World :=
 { World.holding Tryz.prog os ⟨#[],#[],[]⟩ with heap:=C0u (World.holding Tryz.prog os ⟨#[],#[],[]⟩).heap }
theorem B1Z{P:Program}{f:FuncId}{fn:Func}{s:ChangeSpec}{c:OpenClaim}
  (h0:(c.wf (OpenSpec.ofChange s)&&laidOutB P&&mapsRowed P&&fn.params.all (P.readableRec ·)&&namedTie P c.named s.vars&&(c.stops==[])&&(P.stops==[])&&(c.knobs==[])&&(P.stopKnobs==[]))=true)
  (h1:(c.inPlace==P.inPlace f)=true) (h2:(c.unfollowed==P.unfollowed f)=true) (h3:(c.recurses==P.recurses f)=true) (h4:(c.named==P.varsNamed f)=true)
  (h5:((c.maps==(fn.params.toList++s.plain.varTypes P).any (P.mapsRec ·))&&(c.ifaces==(fn.params.toList++s.plain.varTypes P).any (P.ifacesRec ·))&&(c.mapsOut==P.mapsAmong fn.resultTypes.toList) &&
   (c.loops==(fn.params.toList++s.plain.varTypes P).any (P.loopsFrom ·))&&(c.wideKeys==(fn.params.toList++s.plain.varTypes P++fn.resultTypes.toList).any (P.wideKeysFrom ·)) &&
   s.vars.all (P.varReadable ·)&&fn.resultTypes.all (fun t=>P.readableRec t&&decide (t<P.types.size))&&(c.ifacesOut==fn.resultTypes.toList.any (P.ifacesRec ·))&&(c.loopsOut==fn.resultTypes.toList.any (P.loopsFrom ·)))=true)
  (h6:(c.plainKeys==P.plainKeys)=true)
  (h7:(c.shortTexts.isNone&&P.stopsHeard&&P.mayEnter&&(c.lifted==P.liftsFinal)&&(P.make==some c.make)&&(c.kinds==(if c.domain.isEmpty then [] else fn.params.toList.map fun t=>match P.underlying t with|some (.int k)=>some k|_=>none))&&(c.pinned==c.pinnedBy) &&
   (c.veiled==(fn.params.toList++s.plain.varTypes P++fn.resultTypes.toList).any (P.veiledRec ·))&&c.veiledFits P fn.params.toList (fn.params.toList++s.plain.varTypes P++fn.resultTypes.toList))=true):joinedFacts P f fn s c=true:=by
 unfold joinedFacts;simp only[Bool.and_eq_true] at h0 h5 h7 ⊢;obtain⟨⟨⟨⟨⟨⟨⟨⟨a1,a2⟩,a3⟩,a4⟩,a5⟩,a6⟩,a7⟩,a8⟩,a9⟩:=h0;obtain⟨⟨⟨⟨⟨⟨⟨⟨b1,b2⟩,b3⟩,b4⟩,b5⟩,b6⟩,b7⟩,b8⟩,b9⟩:=h5;obtain⟨⟨⟨⟨⟨⟨⟨⟨d1,d2⟩,d3⟩,d4⟩,d5⟩,d6⟩,d7⟩,d8⟩,d9⟩:=h7;exact⟨⟨⟨⟨⟨⟨⟨⟨⟨⟨⟨⟨⟨⟨⟨⟨⟨⟨⟨⟨⟨⟨⟨⟨⟨⟨⟨⟨⟨⟨⟨a1,a2⟩,a3⟩,a4⟩,a5⟩,a6⟩,a7⟩,a8⟩,a9⟩,h1⟩,h2⟩,h3⟩,h4⟩,b1⟩,b2⟩,b3⟩,b4⟩,b5⟩,b6⟩,b7⟩,b8⟩,b9⟩,h6⟩,d1⟩,d2⟩,d3⟩,d4⟩,d5⟩,d6⟩,d7⟩,d8⟩,d9⟩
end Go.Proofs.YtphjabjjnncebaaGreatDoor
