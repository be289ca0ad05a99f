/- Parts of the proof: an abstract machine for Go functions, and what functions of the program give back (Pu4, Un1, Ss1, Ss2, Sb1, Ex20, Ex18, Ex19, Vl7, Ex21). No condition. -/
import Derived.Test.YtphjabjjnncebaaGreatDoorXN
import Derived.Test.YtphjabjjnncebaaGreatDoorXK
import Derived.Test.YtphjabjjnncebaaGreatDoorXG
import Derived.Test.YtphjabjjnncebaaGreatDoorXE
import Derived.Test.YtphjabjjnncebaaGreatDoorXJ
import Derived.Test.YtphjabjjnncebaaGreatDoorXH
set_option maxRecDepth 100000
set_option linter.all false
set_option maxHeartbeats 4000000
namespace Go.Am
open Go Go.Proofs Go.RowKit
/-! An event of one thing leaves all others. -/
def ev0:Ev:=⟨0,0,0,0,0,[]⟩
def A30(s:F1)(e:Ev):Ev:=if A6X s e=0 then B2o s e else ev0
theorem B0o(s:F1)(e:Ev)(id:Nat)(h:Rt s)(he:T9 s e=0):A2 Tryz.prog 127 [B4 s,N5 e] [] id (.tup [N5 (A30 s e),.int .i64 (A6X s e)]) []:=by
 have ho:=B6c h he;have h12:=h.r.len;have hev:∀k:Int,e.kind=k->N5 e=N5 ⟨k,e.type,e.id,e.field,e.n,e.text⟩:=fun k hk=>by unfold N5; rw[←hk]
 have hz:e.kind≠2->A6X s e=0:=fun hk=>by unfold A6X; rw[zh hk]
 by_cases k1:e.kind=1
 ·have hb:=hz (by omega);have hx:A30 s e=⟨2,e.type,e.id,e.field,0,[]⟩:=by unfold A30; rw[zk hb]; unfold B2o; rw[zk k1]
  rw[hx,hb,hev 1 k1];exact B2i s e.type e.id e.field e.n e.text id (by omega)
 by_cases k2:e.kind=2
 ·obtain⟨t,ht,e1,e2⟩:=h.srt.thereAt ⟨ho.ty0,ho.ty2⟩ ⟨ho.id1,ho.id2⟩ (A7w ho k1);have ht':s.things[E6 s e]?=some t:=ht;have h6:=(h.r.tg t (zf ht)).cells6 h.r.sch;have:=B2k s e.type e.id e.field e.n e.text id (by omega) t ht (by omega);rw[hev 2 k2];have hb:A6X s e=if t6 t.cells=true then 0 else 4:=by unfold A6X; rw[zk k2,ht']
  have hx:N5 (A30 s e)=if t6 t.cells=true then N5 ⟨1,e.type,e.id,e.field,0,[]⟩ else N5 ⟨0,0,0,0,0,[]⟩:=by
   unfold A30;rw[hb];by_cases hf:t6 t.cells=true
   ·rw[zk hf,zk hf,zk rfl]; unfold B2o; rw[zh k1,zk k2]
   ·rw[zh hf,zh hf,zh (by omega)]; rfl
  rw[hx,hb];exact this
 have hk3:3<=e.kind:=by have:=ho.k1; omega
 obtain⟨t,f,c,hh⟩:=B6e h ho hk3;have hclo:A1r s e=some c:=by unfold A1r; rw[hh.tt]; exact hh.cc
 have hfdo:Z1 s e=some f:=by unfold Z1; rw[zh (by have:=hh.f0; omega)]; exact hh.ff
 have hb:=hz (by omega);have f0:=hh.f0;have hfd:e.field=(e.field.toNat:Int):=by omega
 have ty0:=ho.ty0;have htd:e.type=(e.type.toNat:Int):=by omega
 have hX:A30 s e=if e.kind=3 then ⟨3,e.type,e.id,e.field,c.n,[]⟩ else if e.kind=4 then ⟨4,e.type,e.id,e.field,0,c.text⟩
   else if e.kind=5 then (if f.kind=3/\c.ids≠[] then ⟨5,e.type,e.id,e.field,c.ids.headD 0,[]⟩ else ⟨6,e.type,e.id,e.field,e.n,[]⟩)
   else ⟨5,e.type,e.id,e.field,e.n,[]⟩:=by
  unfold A30;rw[zk hb];unfold B2o;rw[zh k1,zh k2,hclo,hfdo]
 rw[hb];by_cases k3:e.kind=3
 ·rw[zk k3] at hX;rw[hX,hev 3 k3];exact B2l s e.type e.id e.field e.n e.text id (by omega) t hh.tt e.field.toNat hfd c hh.cc
 rw[zh k3] at hX;by_cases k4:e.kind=4
 ·rw[zk k4] at hX;rw[hX,hev 4 k4];exact B2m s e.type e.id e.field e.n e.text id (by omega) t hh.tt e.field.toNat hfd c hh.cc
 rw[zh k4] at hX;by_cases k5:e.kind=5
 ·rw[zk k5] at hX;have hty:e.type.toNat<s.types.length:=ho.ty1;obtain⟨y,hy⟩:∃y,s.types[e.type.toNat]?=some y:=⟨_,zd hty⟩;have hfl:C2 s.types e.type=y.fields:=by simp[C2,hy]
  have hff:=hh.ff;rw[hfl] at hff;have:=B2n s e.type e.id e.field e.n e.text id (by omega) t hh.tt e.field.toNat hfd c hh.cc e.type.toNat htd y hy f hff;have hx:N5 (A30 s e)=if f.kind=3/\c.ids≠[] then N5 ⟨5,e.type,e.id,e.field,c.ids.headD 0,[]⟩ else N5 ⟨6,e.type,e.id,e.field,e.n,[]⟩:=by rw[hX]; split<;>rfl
  rw[hx,hev 5 k5];exact this
 ·rw[zh k5] at hX;have k6:e.kind=6:=by have:=ho.k2; omega
  rw[hX,hev 6 k6];exact B2j s e.type e.id e.field e.n e.text id (by omega)
def doA(s:F1)(e:Ev):AV:=if y9 s e=0 then .sl ((A0M s e).types.map H6) else .nils
def doB(s:F1)(e:Ev):AV:=if y9 s e=0 then .sl ((A0M s e).things.map M5) else .nils
theorem A9c(s:F1)(e:Ev):AV.one (doA s e)=true:=by unfold doA; split<;>rfl
theorem A9d(s:F1)(e:Ev):AV.one (doB s e)=true:=by unfold doB; split<;>rfl
theorem B5Q(s:F1)(e:Ev)(id:Nat):A2 Tryz.prog 63 [B4 s,N5 e] [] id (.tup [.agg [doA s e,doB s e],.int .i64 (y9 s e)]) []:=by
 have:=B6B s e id;have hx:B2f s e = .agg [doA s e,doB s e]:=by
  unfold B2f doA doB;by_cases h:y9 s e=0
  ·rw[zk h,zk h,zk h]; rfl
  ·rw[zh h,zh h,zh h]; rfl
 rw[hx] at this;exact this
theorem A5Z{s:F1}{e:Ev}(h:y9 s e=0):fSt s=0/\T9 s e=0:=by
 unfold y9 at h;split at h
 ·rename_i h1; exact (h1 h).elim
 ·rename_i h1; exact⟨zm h1,h⟩
theorem B48{s:F1}{e:Ev}(h:fSt s=0):y9 s e=T9 s e:=by unfold y9; rw[zh (by simpa using h)]
def A8q(s:F1)(e:Ev):Int:=if y9 s e≠0 then y9 s e else A6X s e
def A8r(s:F1)(e:Ev):Ev:=if y9 s e≠0 then ev0 else A30 s e
theorem B49(s:F1)(e:Ev)(id:Nat)(hI:B5O s):A2 Tryz.prog 64 [B4 s,N5 e] [] id (.tup [N5 (A8r s e),.int .i64 (A8q s e)]) []:=by
 have hD:=B5Q s e;have hB:=fun h id=>B0o s e id (B6C (A5Z h).1 hI) (A5Z h).2;by_cases h:y9 s e=0
 ·have hB:=hB h;have e1:A8q s e=A6X s e:=by unfold A8q; rw[zh (by simpa using h)]
  have e2:A8r s e=A30 s e:=by unfold A8r; rw[zh (by simpa using h)]
  rw[e1,e2];unfold B4 N5 at *;refine w64.e.1 fun E hP hR hl hid=>?_;simp[w64];(refine yH rfl (hD _) ?_; simp);refine⟨⟨A9c _ _,A9d _ _⟩,?_⟩;refine A0 (by simpa using h) ?_;simp;(refine yH rfl (hB _) ?_; simp);exact yP hR
 ·have e1:A8q s e=y9 s e:=by unfold A8q; rw[zk h]
  have e2:A8r s e=ev0:=by unfold A8r; rw[zk h]
  rw[e1,e2];unfold B4 N5 ev0 at *;refine w64.e.1 fun E hP hR hl hid=>?_;simp[w64];(refine yH rfl (hD _) ?_; simp);refine⟨⟨A9c _ _,A9d _ _⟩,?_⟩;refine D5 (by simpa using h) ?_;simp;exact yP hR
deriving instance DecidableEq for Fd
deriving instance DecidableEq for Ty
deriving instance DecidableEq for Cl
deriving instance DecidableEq for Tg
deriving instance DecidableEq for F1
def tyW:List Ty:=[⟨[65],[⟨[110],1,[]⟩,⟨[116],2,[]⟩,⟨[98],3,[66]⟩,⟨[108],4,[65]⟩]⟩,⟨[66],[⟨[109],1,[]⟩]⟩]
theorem B2p(id:Nat):A2 Tryz.prog 35 [] [] id (.sl (tyW.map H6)) []:=by
 unfold tyW;simp only[yd,ww,H6,M4];refine w35.e.1 fun E hP hR hl hid=>?_;simp[w35];have hrn:I0 []:=by simp[B2 hid]
 rw[hR];refine n9 (by simp<;>rfl) (by simp[B2 hid]<;>exact⟨rfl,rfl⟩) [] hrn ⟨?_,?_,?_,?_,?_,?_⟩<;>(try simp[B2 hid]);exact A5 _ rfl
def stW:F1:=⟨tyW,[⟨0,3,[⟨5,[],[]⟩,⟨0,[120],[]⟩,⟨0,[],[1]⟩,⟨0,[],[3,4]⟩]⟩,⟨0,4,[cl0,cl0,cl0,cl0]⟩,⟨1,1,[⟨-1,[],[]⟩]⟩]⟩
theorem B0p(id:Nat):A2 Tryz.prog 37 [] [] id (.agg [.sl (tyW.map H6),.sl [.agg [.int .i64 0,.int .i64 3,.sl [.agg [.int .i64 5,.str [],.nils],.agg [.int .i64 0,.str [120],.nils],.agg [.int .i64 0,.str [],.sl [.int .i64 1]],.agg [.int .i64 0,.str [],.sl [.int .i64 3,.int .i64 4]]]],
  .agg [.int .i64 0,.int .i64 4,.sl [.agg [.int .i64 0,.str [],.nils],.agg [.int .i64 0,.str [],.nils],.agg [.int .i64 0,.str [],.nils],.agg [.int .i64 0,.str [],.nils]]],.agg [.int .i64 1,.int .i64 1,.sl [.agg [.int .i64 (-1),.str [],.nils]]]]]) []:=by
 refine w37.e.1 fun E hP hR hl hid=>?_;simp[w37];(refine yH rfl (B2p _) ?_; simp);have hrn:I0 []:=by simp[B2 hid]
 rw[hR];refine n9 (by simp<;>rfl) (by simp[B2 hid]<;>exact⟨rfl,rfl⟩) [] hrn ⟨?_,?_,?_,?_,?_,?_⟩<;>(try simp[B2 hid]);exact A5 _ rfl
theorem A7x(id:Nat):A2 Tryz.prog 37 [] [] id (B4 stW) []:=(B0p id).nrm
def e1W:Ev:=⟨6,0,3,3,4,[]⟩
def e2W:Ev:=⟨2,0,4,0,0,[]⟩
def e3W:Ev:=⟨3,0,3,0,9,[]⟩
def A31:F1:=⟨tyW,[⟨0,3,[⟨5,[],[]⟩,⟨0,[120],[]⟩,⟨0,[],[1]⟩,⟨0,[],[3]⟩]⟩,⟨0,4,[cl0,cl0,cl0,cl0]⟩,⟨1,1,[⟨-1,[],[]⟩]⟩]⟩
def B4A:F1:=⟨tyW,[⟨0,3,[⟨5,[],[]⟩,⟨0,[120],[]⟩,⟨0,[],[1]⟩,⟨0,[],[3]⟩]⟩,⟨1,1,[⟨-1,[],[]⟩]⟩]⟩
theorem w0(x:Int)(h : -9223372036854775808<=x/\x<=9223372036854775807):IntKind.i64.wrap x=x:=wrap64 h
theorem B4a:F8 tyW=0:=by decide
theorem B2q:fSt stW=0:=by
 have:=B4a;unfold tyW at this;simp[fSt,stW,this,B9,k9,R5,C2,tyW,s7,A15,cl0,O5,A1l,A2z,F4,S5,w0,M2,P7,F9,A8,B7,C3,B3,bs]
theorem B6f:fSt A31=0:=by
 have:=B4a;unfold tyW at this;simp[fSt,A31,this,B9,k9,R5,C2,tyW,s7,A15,cl0,O5,A1l,A2z,F4,S5,w0,M2,P7,F9,A8,B7,C3,B3,bs]
theorem B5R:T9 stW e1W=0:=by simp[e1W,cl0,tyW,T9,O8,Q2,doE,x9,E6,C3,B3,bs,F4,S5,stW,w0,chE,Z1,A1r,C2,H8,O5,O7,T6,H7,fLt]
theorem B4B:A0M stW e1W=A31:=by simp[e1W,A31,tyW,A0M,E6,B3,bs,F4,S5,stW,w0,Z1,A1r,C2,s9,A7r,H7,fLt,A8o]
theorem B2r:T9 stW e2W=4:=by simp[e2W,cl0,tyW,T9,O8,Q2,doE,x9,E6,C3,B3,bs,F4,S5,stW,w0,C2,O5,M2,P7,P8,A8,B7,B3v]
theorem B5S:T9 A31 e2W=0:=by simp[e2W,cl0,tyW,T9,O8,Q2,doE,x9,E6,C3,B3,bs,F4,S5,A31,w0,C2,O5,M2,P7,P8,A8,B7,B3v]
theorem B4C:A0M A31 e2W=B4A:=by simp[e2W,A31,B4A,cl0,tyW,A0M,E6,B3,bs,F4,S5,w0]
theorem B5T:T9 stW e3W=0:=by simp[e3W,cl0,tyW,T9,O8,Q2,doE,x9,E6,C3,B3,bs,F4,S5,stW,w0,chE,Z1,A1r,C2,H8,O5,O7,T6,H7,fLt]
theorem B5U:A30 stW e3W=⟨3,0,3,0,5,[]⟩:=by simp[A30,A6X,B2o,e3W,E6,B3,bs,F4,S5,stW,w0,Z1,A1r,C2,tyW]
theorem B6D(id:Nat):A2 Tryz.prog 63 [B4 stW,N5 e1W] [] id (.tup [B4 A31,.int .i64 0]) []:=by
 have:=A6V stW e1W id B2q B5R;rw[B4B] at this;exact this
theorem B6E(id:Nat):A2 Tryz.prog 63 [B4 stW,N5 e2W] [] id (.tup [eS0,.int .i64 4]) []:=by
 have:=B2g stW e2W id B2q (by rw[B2r]; decide);rw[B2r] at this;exact this
theorem B6F(id:Nat):A2 Tryz.prog 63 [B4 A31,N5 e2W] [] id (.tup [B4 B4A,.int .i64 0]) []:=by
 have:=A6V A31 e2W id B6f B5S;rw[B4C] at this;exact this
theorem B5V(id:Nat):A2 Tryz.prog 64 [B4 stW,N5 e3W] [] id (.tup [N5 ⟨3,0,3,0,5,[]⟩,.int .i64 0]) []:=by
 have h0:y9 stW e3W=0:=by rw[B48 B2q,B5T]
 have:=B49 stW e3W id (by unfold B5O I64 stW cl0; simp);have h1:A8r stW e3W=⟨3,0,3,0,5,[]⟩:=by unfold A8r; rw[zh (by simpa using h0),B5U]
 have h2:A8q stW e3W=0:=by unfold A8q; rw[zh (by simpa using h0)]; rfl
 rw[h1,h2] at this;exact this
theorem A4b(id:Nat):A2 Tryz.prog 23 [] [] id (.bool true) []:=by
 have hw:=fun id=>A7x id;have h1:=fun id=>B6D id;have h2:=fun id=>B6E id;have h3:=fun id=>B6F id;have h4:=fun id=>B5V id;have h5:=fun id=>R6 stW id;rw[B2q] at h5;simp only[B4,N5,e1W,e2W,e3W,eS0] at *;refine w23.e.1 fun E hP hR hl hid=>?_;simp[w23];(refine yH rfl (hw _) ?_; simp);(refine yH rfl (h1 _) ?_; simp);(refine yH rfl (hw _) ?_; simp);(refine yH rfl (h2 _) ?_; simp);(refine yH rfl (h3 _) ?_; simp);(refine yH rfl (hw _) ?_; simp);(refine yH rfl (h4 _) ?_; simp);(refine yH rfl (hw _) ?_; simp);(refine yC rfl (h5 _) ?_; simp[A31,B4A,M5,t8,e0,A0F]);exact yP hR
def B6g(s:F1):Prop:=∀t∈s.things,∀c∈t.cells,∀x∈c.ids,I64 x
end Go.Am
