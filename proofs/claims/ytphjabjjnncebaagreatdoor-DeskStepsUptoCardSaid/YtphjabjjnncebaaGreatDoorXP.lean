/- Parts of the proof: an abstract machine for Go functions, and what functions of the program give back (Ch5, Ch6, Ch7, Ch8, Lb1, Lz0, Lb2, Lb4, Ln1, Lx1, Lx2, Lx3). No condition. -/
import Derived.Test.YtphjabjjnncebaaGreatDoorXO
import Derived.Test.YtphjabjjnncebaaGreatDoorXI
import Derived.Test.YtphjabjjnncebaaGreatDoorXJ
import Derived.Test.YtphjabjjnncebaaGreatDoorProg
import Derived.Shelf.Strconv.Itoa3
import Derived.Shelf.Strings.OnBuilder
import Derived.KernelRfl
import Derived.Test.YtphjabjjnncebaaGreatDoorXH
import Derived.Test.YtphjabjjnncebaaGreatDoorXM
import Derived.Test.YtphjabjjnncebaaGreatDoorXF
import Derived.Shelf.Strconv.AtoiAll
import Derived.Lib.AtoiAll
set_option maxRecDepth 100000
set_option linter.all false
set_option maxHeartbeats 4000000
namespace Go.Am
open Go Go.Proofs Go.RowKit Go.Proofs.Tryz
def B5o{l:List Ty}{i:Int}{t:Ty}(h:l[i.toNat]?=some t):D5 l i=t.fields:=by unfold D5; rw[h]; rfl
def C4W{l:List Ty}{s:C5}(h:¬tyI l s<0):∃(k:Nat) (t:Ty),tyI l s=k/\k<l.length/\l[k]?=some t:=by
 unfold tyI B8 at *;rcases S3 (λt:Ty=>t.name==(V2 s.args A1u).text) l 0 with⟨_,h2⟩|⟨k,x,h1,h2,_⟩
 ·rw[h2] at h; exact (h d_).elim
 ·exact⟨k,x,by rw[h2]; simp,(ze.1 h1).1,h1⟩
def A5k{l:List Ty}{s:C5}{w:Int}(h:mkE l s=w)(hw:w≠0):S1 (evX l s) = .agg [.int .i64 0,.int .i64 0,.int .i64 0,.int .i64 0,.int .i64 0,.str []]:=by unfold evX; rw[zf (by rw[h]; exact hw)]; rfl
def C1n(l:List Ty)(s:C5)(J:Nat)(id:Nat)(hA:Z8 s.args=0)(hl8:l.length<=1000)(hf8:∀t∈l,t.fields.length<=1000):A2 prog 161 [.ptr J 0 0] [(J,⟨[eMk l s],eMk l s,false,false⟩)] id (.tup [S1 (evX l s),.int .i64 (mkE l s)]) []:=by
 have ha8:s.args.length<9223372036854775807:=by have:=(B0l hA).1; omega
 have hF:=λn id=>A5h l s J n id ha8;have hmk:mkE l s=if s.kids≠[] then 4 else if X3 s=0 then 5 else if A0o s.args (T5 (X3 s))≠0 then A0o s.args (T5 (X3 s)) else if tyI l s<0 then 5 else if 2<X3 s/\fdI l s<0 then 5 else 0:=rfl
 have hFt:=λid=>o8 l (V2 s.args A1u).text id o_;rw[show E0 (λx:Ty=>x.name==(V2 s.args A1u).text) l 0=tyI l s from rfl] at hFt;have hFT:=hF A1u;have hFI:=hF nId;have hFF:=hF A0I;have hF0:=hF X1;have hF1:=hF nTo;have hF2:=hF X0;have hb:=B1u hA;have hs0:=C4V hA 0;have hs1:=C4V hA 1;have hs2:=C4V hA 2;have hb0:=hb X1;have hb1:=hb nTo;have hb2:=hb X0;have hxe:∀w,mkE l s=w->w=0->(X3 s≠0->A0o s.args (T5 (X3 s))=0->S1 (evX l s) = .agg [.int .i64 (X3 s),.int .i64 (tyI l s),.int .i64 (V2 s.args nId).n,.int .i64 (if 2<X3 s then fdI l s else 0),.int .i64 (sN s.args 3),.str (sT s.args 3)]):=λw h1 h2 h3 h4=>by
  obtain⟨g1,g2⟩:=s3 h3 h4;unfold evX; rw[zj (h1.trans h2),g1,g2]; rfl
 have st1:sN s.args 1=sN s.args 0+(V2 s.args X1).n/\sT s.args 1=sT s.args 0++(V2 s.args X1).text:=⟨rfl,rfl⟩;have st2:sN s.args 2=sN s.args 1+(V2 s.args nTo).n/\sT s.args 2=sT s.args 1++(V2 s.args nTo).text:=⟨rfl,rfl⟩;have st3:sN s.args 3=sN s.args 2+(V2 s.args X0).n/\sT s.args 3=sT s.args 2++(V2 s.args X0).text:=⟨rfl,rfl⟩;generalize hT:V2 s.args A1u=aT at *;generalize hI:V2 s.args nId=aI at *;generalize hFd:V2 s.args A0I=aF at *;generalize hn0:V2 s.args X1=a0 at *;generalize hn1:V2 s.args nTo=a1 at *;generalize hn2:V2 s.args X0=a2 at *;unfold A1u at hFT;unfold nId at hFI;unfold A0I at hFF;unfold X1 at hF0;unfold nTo at hF1;unfold X0 at hF2;simp only[U3 aT] at hFT;simp only[U3 aI] at hFI;simp only[U3 aF] at hFF;simp only[U3 a0] at hF0;simp only[U3 a1] at hF1;simp only[U3 a2] at hF2;have hNm:=λid=>C1j l s J id ha8;have hKd:=λid hk=>C4U l s J id ha8 hk;have hG:=λid=>C1k l s (T5 (X3 s)) J id ha8 (by rw[A1w]; unfold B0o; split<;>simp);rw[A1w,yg,yg,←A1w] at hG;unfold eMk at *;refine w161.e.1 λE hP hR hl hid=>?_;simp[w161];have hJ:=hl (J,_) (za ..);simp only at hJ;have J1:=lf hJ;(refine yC rfl (hNm _) ?_; simp[J1]);refine D0 (λh0=>?_) (λh0=>?_)
 ·have h0:s.kids≠[]:=by intro e; rw[e] at h0; simp at h0
  rw[zj h0] at hmk;rw[hmk,A5k hmk d_] at hR;simp;refine yE hR [] s_ λhrn=>⟨?_,?_,?_,?_,?_,?_⟩<;>(try simp[J1])
 have h0:¬s.kids≠[]:=by
  intro e;have:=xi.2 e;simp at h0;exact e h0
 rw[zf h0] at hmk;by_cases hk:X3 s=0
 ·rw[zj hk] at hmk;rw[hmk,A5k hmk d_] at hR;rw[hk,show A94 0 = .nils from rfl];simp;refine yE hR [] s_ λhrn=>⟨?_,?_,?_,?_,?_,?_⟩<;>(try simp[J1])
 rw[zf hk] at hmk;have hnv:A94 (X3 s) = .sl (.str A1u::.str nId::(B0o (X3 s)).map .str):=by unfold A94; rw[zf hk,A1w]; rfl
 have hps:∀S,F4 S ((B0o (X3 s)).map AV.str):=λS=>A1v S _;rw[hnv];generalize (B0o (X3 s)).map AV.str=NR at *;simp;(refine yC rfl (hG _) ?_; simp[J1]);refine D0 (λh1=>?_) (λh1=>?_)<;>simp
 ·have h1:A0o s.args (T5 (X3 s))≠0:=by simpa using h1
  rw[zj h1] at hmk;rw[hmk,A5k hmk h1] at hR;refine yE hR [] s_ λhrn=>⟨?_,?_,?_,?_,?_,?_⟩<;>(try simp[J1])
 have h1:A0o s.args (T5 (X3 s))=0:=by simpa using h1
 rw[zf (v_ h1)] at hmk;have hhf:A2x s.args [102,105,101,108,100]=decide (2<X3 s):=B95 hk h1;rw[hhf] at hFF;(refine yC rfl (hKd _ hk) ?_; simp[J1]);(refine yC rfl (hFT _) ?_; simp[J1]);(refine yC rfl (hFI _) ?_; simp[J1]);(refine yC rfl (hFt _) ?_; simp);refine D0 (λh2=>?_) (λh2=>?_)<;>simp
 ·rw[zj (v_ h2)] at hmk;rw[hmk,A5k hmk d_] at hR;refine yE hR [] s_ λhrn=>⟨?_,?_,?_,?_,?_,?_⟩<;>(try simp[J1])
 have h2:¬tyI l s<0:=by simpa using h2
 rw[zf h2] at hmk;obtain⟨k,t,hty,hkl,hlk⟩:=C4W h2;have hfl:D5 l (tyI l s)=t.fields:=B5o (by rw[hty]; exact hlk);have hFo:=λid=>A1V t.fields t.name aF.text id (by have:=hf8 t (zg hlk); omega);rw[show E0 (λx=>x.name==aF.text) t.fields 0=fdI l s by unfold fdI; rw[hfl,hFd]] at hFo;have hxT:I9 t = .agg [.str t.name,.sl (t.fields.map U8)]:=rfl;refine E5 hP rfl (hFF _) s_ (by simp[J1]<;>rfl) ?_;refine A3 28 ?_;simp;refine A3 6 ?_;simp;refine B08 (X:=Unit) (λ_=>⟨[(0,true,.ptr J 0 0),(2,true,.ptr E.n0 0 0),(6,true,.ptr (E.n0+1) 0 0)],[(J,some ⟨[.agg [.sl (l.map I9),.str s.alias,.str s.name,.sl (s.args.map s6),.sl (s.kids.map C6)]],.agg [.sl (l.map I9),.str s.alias,.str s.name,.sl (s.args.map s6),.sl (s.kids.map C6)],false,false⟩),(E.n0,some ⟨[.agg [.int .i64 0,.int .i64 0,.int .i64 0,.int .i64 0,.int .i64 0,.str []]],.agg [.int .i64 0,.int .i64 0,.int .i64 0,.int .i64 0,.int .i64 0,.str []],false,false⟩),(E.n0+1,some ⟨[.agg [.int .i64 (X3 s),.int .i64 (tyI l s),.int .i64 aI.n,.int .i64 (if 2<X3 s then fdI l s else 0),.int .i64 (0),.str ([])]],.agg [.int .i64 0,.int .i64 0,.int .i64 0,.int .i64 0,.int .i64 0,.str []],false,false⟩)],2⟩) (λ_=>¬(2<X3 s/\fdI l s<0)) (λp hp=>?_) λ_ h5=>?_
 ·refine A3 4000 ?_;simp;refine D0 (λh3=>?_) (λh3=>?_)
  ·have h3:2<X3 s:=(v_ h3);rw[hty];simp[J1,hlk,hxT];refine⟨hkl,?_⟩;(refine yC rfl (hFo _) ?_; simp);refine D0 (λh4=>?_) (λh4=>?_)<;>simp
   ·rw[zj ⟨h3,v_ h4⟩] at hmk;rw[hmk,A5k hmk d_] at hR;refine yE hR [] s_ λhrn=>⟨?_,?_,?_,?_,?_,?_⟩<;>(try simp[J1])
   ·refine hp _ () (λg=>by simp at h4; omega) ?_;refine yV [(E.n0,E.n0),(E.n0+1,E.n0+23552)] s_ λhrn=>⟨?_,?_,?_,?_,?_⟩<;>(try simp[J1,h3,hty])
  ·have h3:¬2<X3 s:=(v_ h3);simp;refine hp _ () (λg=>h3 g.1) ?_;refine yV [(E.n0,E.n0),(E.n0+1,E.n0+23552)] s_ λhrn=>⟨?_,?_,?_,?_,?_⟩<;>(try simp[J1,h3,hty])
 ·rw[zf h5] at hmk;have hxx:=hxe _ hmk rfl hk h1;rw[hmk,hxx] at hR;refine A3 4000 ?_;simp;refine B9 (X:=Nat) (λi=>⟨[(0,true,.ptr J 0 0),(2,true,.ptr E.n0 0 0),(6,true,.ptr (E.n0+1) 0 0),(87,true,.bsl (E.n0+2) 0 3),(88,true,.int .i64 3),(89,true,.int .i64 i)],[(J,some ⟨[.agg [.sl (l.map I9),.str s.alias,.str s.name,.sl (s.args.map s6),.sl (s.kids.map C6)]],.agg [.sl (l.map I9),.str s.alias,.str s.name,.sl (s.args.map s6),.sl (s.kids.map C6)],false,false⟩),(E.n0,some ⟨[.agg [.int .i64 0,.int .i64 0,.int .i64 0,.int .i64 0,.int .i64 0,.str []]],.agg [.int .i64 0,.int .i64 0,.int .i64 0,.int .i64 0,.int .i64 0,.str []],false,false⟩),(E.n0+1,some ⟨[.agg [.int .i64 (X3 s),.int .i64 (tyI l s),.int .i64 aI.n,.int .i64 (if 2<X3 s then fdI l s else 0),.int .i64 (sN s.args i),.str (sT s.args i)]],.agg [.int .i64 0,.int .i64 0,.int .i64 0,.int .i64 0,.int .i64 0,.str []],false,false⟩),(E.n0+2,some ⟨[.str [110,117,109,98,101,114],.str [116,111],.str [116,101,120,116]],.str [],false,false⟩)],3⟩) (λi=>i<=3) (λi=>3 - i) 0 ?_ o_ ?_
  ·refine yV [(E.n0,E.n0),(E.n0+1,E.n0+1),(E.n0+2,E.n0+2)] s_ λhrn=>⟨?_,?_,?_,?_,?_⟩<;>(try simp[J1,sN,sT])
  ·rintro i hi p hp;have hc:i=0\/i=1\/i=2\/i=3:=o_;refine A3 4000 ?_;rcases hc with rfl|rfl|rfl|rfl
   ·have hw:IntKind.i64.wrap (sN s.args 0+a0.n)=sN s.args 1:=(by rw[st1.1]; exact wrap64 o_);simp[J1];(refine yC rfl (hF0 _) ?_; simp[J1]);refine⟨o_,?_⟩;simp[hw,←st1.2];refine hp _ 1 o_ o_ ?_;refine yV [(E.n0,E.n0),(E.n0+1,E.n0+1),(E.n0+2,E.n0+2)] s_ λhrn=>⟨?_,?_,?_,?_,?_⟩<;>(try simp[J1]);rfl
   ·have hw:IntKind.i64.wrap (sN s.args 1+a1.n)=sN s.args 2:=(by rw[st2.1]; exact wrap64 o_);simp[J1];(refine yC rfl (hF1 _) ?_; simp[J1]);refine⟨o_,?_⟩;simp[hw,←st2.2];refine hp _ 2 o_ o_ ?_;refine yV [(E.n0,E.n0),(E.n0+1,E.n0+1),(E.n0+2,E.n0+2)] s_ λhrn=>⟨?_,?_,?_,?_,?_⟩<;>(try simp[J1]);rfl
   ·have hw:IntKind.i64.wrap (sN s.args 2+a2.n)=sN s.args 3:=(by rw[st3.1]; exact wrap64 o_);simp[J1];(refine yC rfl (hF2 _) ?_; simp[J1]);refine⟨o_,?_⟩;simp[hw,←st3.2];refine hp _ 3 o_ o_ ?_;refine yV [(E.n0,E.n0),(E.n0+1,E.n0+1),(E.n0+2,E.n0+2)] s_ λhrn=>⟨?_,?_,?_,?_,?_⟩<;>(try simp[J1]);rfl
   ·simp[J1];refine yE hR [] s_ λhrn=>⟨?_,?_,?_,?_,?_,?_⟩<;>(try simp[J1])
def ofE(l:List Ty)(q:List C5):Int:=if S2 (mkE l) q≠0 then S2 (mkE l) q else if 8<q.length then 2 else 0
def I2(l:List Ty)(q:List C5):List Ev:=q.map (mkX l)
def evV(w:Int)(ev:List Ev):AV:=if w=0 then .sl (ev.map S1) else .nils
def C6k{l:List Ty}{s:C5}(h:mkE l s=0):evX l s=mkX l s:=by unfold evX; rw[zj h]
def C8C(l:List Ty)(q:List C5)(id:Nat)(hA:∀s∈q,Z8 s.args=0)(hl8:l.length<=1000)(hf8:∀t∈l,t.fields.length<=1000)(hq8:q.length<=1000000):A2 prog 95 [.sl (l.map I9),.sl (q.map C6)] [] id (.tup [evV (ofE l q) (I2 l q),.int .i64 (ofE l q)]) []:=by
 have hE:=λs (hs:s∈q) J id=>C1n l s J id (hA s hs) hl8 hf8;unfold eMk at hE;refine w95.e.1 λE hP hR hl hid=>?_;simp[w95];refine B9 (X:=Nat) (λi=>⟨[(0,true,.sl (l.map I9)),(6,true,.bsl E.n0 0 i),(12,true,.sl (q.map C6)),(13,true,.int .i64 q.length),(14,true,.int .i64 i)],[(E.n0,some ⟨((I2 l q).take i).map S1,.agg [.int .i64 0,.int .i64 0,.int .i64 0,.int .i64 0,.int .i64 0,.str []],false,false⟩)],1⟩)
  (λi=>i<=q.length/\S2 (mkE l) (q.drop i)=S2 (mkE l) q) (λi=>q.length - i) 0 ?_ ⟨s_,rfl⟩ ?_
 ·refine D9.trans (D9.voidSlot 6 (x:=.nils) (y:=.bsl (E.n0+6144) 0 0) s_ .nils (.agg [.int .i64 0,.int .i64 0,.int .i64 0,.int .i64 0,.int .i64 0,.str []])) ?_;exact yW [(E.n0,E.n0+6144)] trivial
 ·rintro i ⟨hi,hf⟩ p hp;refine A3 4000 ?_;simp;refine D0 (λh=>?_) (λh=>?_)
  ·have h:=zq h;obtain⟨x,hx,hd⟩:=A5 h;have hi1:IntKind.i64.wrap ((i:Int)+1)=((i+1:Nat):Int):=wrap64 o_;have hxm:=zg hx;rw[hd] at hf;simp only[S2] at hf;simp[hx,H0 x];refine⟨h,?_⟩;have hEx:=hE x hxm;have hxe:mkE l x=0->evX l x=mkX l x:=C6k;generalize evX l x=e at *;simp only[show S1 e = .agg [.int .i64 e.kind,.int .i64 e.type,.int .i64 e.id,.int .i64 e.field,.int .i64 e.n,.str e.text] from rfl] at hEx;(refine yH rfl (hEx (E.n0+8193) _) ?_; simp);refine D0 (λh1=>?_) (λh1=>?_)<;>simp
   ·have h1:mkE l x≠0:=(v_ h1);rw[zj h1] at hf;have hv:ofE l q=mkE l x:=(by unfold ofE; rw[←hf,zj h1]);have hw:evV (mkE l x) (I2 l q) = .nils:=(by unfold evV; rw[zf h1]);rw[hv,hw] at hR;exact yP hR
   ·have h1:mkE l x=0:=(v_ h1);rw[zf (v_ h1)] at hf;have he:=hxe h1;have hxs:((I2 l q).map S1)[i]?=some (S1 (mkX l x)):=(by unfold I2; simp[hx]);have hts:=L0 hxs;rw[←he] at hts;refine⟨⟨by simp[I2]; omega,o_,o_⟩,?_⟩;refine hp _ (i+1) ⟨h,hf⟩ o_ ?_;refine yV [(E.n0,E.n0+23553)] s_ λhrn=>⟨?_,?_,?_,?_,?_⟩<;>(try simp[hi1]);exact B4 hts.symm (by rw[←yt,←yt] at hts; rw[←yt]; exact B3 (A3a _) rfl)
  ·have h:=zo h;have hiq:i=q.length:=o_;have htk:((I2 l q).map S1).take i=(I2 l q).map S1:=zm (by simp[I2]; omega);simp;rw[zp o_] at hf;have hf:S2 (mkE l) q=0:=hf.symm;refine D0 (λh1=>?_) (λh1=>?_)<;>simp
   ·have hv:ofE l q=2:=(by unfold ofE; rw[zf (v_ hf),zj (by simp at h1; omega)]);rw[hv,show evV 2 (I2 l q) = .nils from rfl] at hR;exact yP hR
   ·have hv:ofE l q=0:=(by unfold ofE; rw[zf (v_ hf),zf (by simp at h1; omega)]);rw[hv,show evV 0 (I2 l q) = .sl ((I2 l q).map S1) from rfl] at hR;have hln:(I2 l q).length=q.length:=(by simp[I2]);subst hiq;have hrn:F7 []:=s_;rw[hR];refine J0 f_ (by simp[htk,hln]<;>exact⟨rfl,rfl⟩) [] hrn ⟨?_,?_,?_,?_,?_,?_⟩<;>(try simp[htk])
def A95:∀(q ah:List C5),S4 q ah=0->∀s∈q,Z8 s.args=0
 | [],_,_,s,hs=>by cases hs
 | x::r,ah,h,s,hs=>by
  simp only[S4] at h;split at h
  ·rename_i g; exact (g h).elim
  ·rename_i g;split at h
   ·rename_i g2; exact (g2 h).elim
   ·rcases zi.1 hs with rfl|hs
    ·have g:A3i s ah=0:=zk g;unfold A3i at g;repeat' split at g
     all_goals first|omega|(rename_i a; exact zk a)
    ·exact A95 r _ h s hs
def A33{q:List C5}(h:J6 q=0):q≠[]/\q.length<=40/\S4 q []=0/\∀s∈q,Z8 s.args=0:=by
 unfold J6 at h;split at h
 ·omega
 ·rename_i g;split at h
  ·omega
  ·rename_i g2;have:q.length<=W8 5 q:=by simp[W8]
   exact⟨g,o_,h,A95 q [] h⟩
def B96{s:H6}(h:fSt s=0):H9 s.types=0:=by
 unfold fSt at h;split at h
 ·rename_i g; exact (g h).elim
 ·rename_i g; exact zk g
def rdE(s:H6)(q:List C5):Int:=if fSt s≠0 then fSt s else J6 q
def cvE(s:H6)(q:List C5):Int:=if rdE s q≠0 then rdE s q else ofE s.types q
def A5l{s:H6}{q:List C5}(h:rdE s q=0):fSt s=0/\J6 q=0:=by
 unfold rdE at h;split at h
 ·rename_i g; exact (g h).elim
 ·rename_i g; exact⟨zk g,h⟩
def A7u{w:Int}(h:w≠0)(ev:List Ev):evV w ev = .nils:=by unfold evV; rw[zf h]
def C8D{s:H6}{q:List C5}(h:rdE s q=0)(id:Nat):A2 prog 95 [.sl (s.types.map I9),.sl (q.map C6)] [] id (.tup [evV (ofE s.types q) (I2 s.types q),.int .i64 (ofE s.types q)]) []:=by
 have hS:=A5W (B96 (A5l h).1);have hq:=A33 (A5l h).2;exact C8C s.types q id hq.2.2.2 (by have:=hS.len; omega) (λt ht=>by have:=hS.fields t ht; omega) o_
@[simp] theorem C8E (w:Int) (ev:List Ev):(evV w ev).pureB=true:=by
 unfold evV;split
 ·exact A3a _
 ·rfl
def B0p(s:H6)(q:List C5)(id:Nat)(hq8:p7 q<=1099511627776):A2 prog 36 [H4 s,.sl (q.map C6)] [] id (.tup [evV (cvE s q) (I2 s.types q),.int .i64 (cvE s q)]) []:=by
 have hS:=λid=>A4x s id;have hQ:=λid=>A2S q id hq8;have hO:=λh id=>C8D (s:=s) (q:=q) h id;unfold H4 at *;have hrd:rdE s q=if fSt s≠0 then fSt s else J6 q:=rfl
 have hch:cvE s q=if rdE s q≠0 then rdE s q else ofE s.types q:=rfl
 have bad:rdE s q≠0->∀w,rdE s q=w->cvE s q=w/\evV (cvE s q) (I2 s.types q) = .nils:=λh w hw=>by
  rw[zj h] at hch;exact⟨hch.trans hw,A7u (by rw[hch]; exact h) _⟩
 refine w36.e.1 λE hP hR hl hid=>?_;simp[w36];(refine yH rfl (hS _) ?_; simp);refine D0 (λh1=>?_) (λh1=>?_)<;>simp
 ·have h1:fSt s=0:=by simpa using h1
  rw[zf (v_ h1)] at hrd;(refine yH rfl (hQ _) ?_; simp);refine D0 (λh2=>?_) (λh2=>?_)<;>simp
  ·have h2:J6 q≠0:=(v_ h2);obtain⟨e1,e2⟩:=bad (by rw[hrd]; exact h2) _ hrd;rw[e2,e1] at hR;exact yP hR
  ·have h2:J6 q=0:=(v_ h2);have h3:rdE s q=0:=hrd.trans h2;rw[zf (v_ h3)] at hch;rw[hch] at hR;(refine yH rfl (hO h3 _) ?_; simp);exact yP hR
 ·have h1:fSt s≠0:=by simpa using h1
  rw[zj h1] at hrd;obtain⟨e1,e2⟩:=bad (by rw[hrd]; exact h1) _ hrd;rw[e2,e1] at hR;refine A7 (v_ h1) ?_;simp;exact yP hR
def C4X{s:H6}{q:List C5}(h:rdE s q=0):∀e∈I2 s.types q,I64 e.n:=λe he=>by
 obtain⟨x,hx,rfl⟩:=zw.1 he;have hA:=(A33 (A5l h).2).2.2.2 x hx;simp only[mkX,B94,I64];split
 ·have:=B1u hA (B1t (X3 x)); omega
 ·simp[ag0]
def C1o{l:List Ty}{q:List C5}(h:ofE l q=0):S2 (mkE l) q=0/\q.length<=8:=by
 unfold ofE at h;split at h
 ·rename_i g; exact (g h).elim
 ·rename_i g;split at h
  ·omega
  ·exact⟨zk g,o_⟩
def B48{s:H6}{q:List C5}(h:cvE s q=0):rdE s q=0/\ofE s.types q=0:=by
 unfold cvE at h;split at h
 ·rename_i g; exact (g h).elim
 ·rename_i g; exact⟨zk g,h⟩
def C6l{s:H6}{q:List C5}(h:cvE s q=0):A6j s (I2 s.types q)=0:=by
 obtain⟨h1,h2⟩:=B48 h;have:=(C1o h2).2;unfold A6j;rw[zf (by simpa using (A5l h1).1),zf (by simp[I2]; omega)]
def cdE(s:H6)(q:List C5):Int:=if cvE s q≠0 then cvE s q else V0 s (I2 s.types q)
def C1p{s:H6}{q:List C5}(h:cdE s q=0):cvE s q=0/\V0 s (I2 s.types q)=0:=by
 unfold cdE at h;split at h
 ·rename_i g; exact (g h).elim
 ·rename_i g; exact⟨zk g,h⟩
def A6k{w:Int}(h:w≠0)(s:H6):A17 w s = .agg [.nils,.nils]:=by rw[y9,zf h]; rfl
def B5p(s:H6)(q:List C5)(id:Nat)(hI:B90 s)(hq8:p7 q<=1099511627776):A2 prog 17 [H4 s,.sl (q.map C6)] [] id (.tup [A17 (cdE s q) (Z4 s (I2 s.types q)),evV (cdE s q) (I2 s.types q),.int .i64 (cdE s q)]) []:=by
 have hV:=λid=>B0p s q id hq8;have hcd:cdE s q=if cvE s q≠0 then cvE s q else V0 s (I2 s.types q):=rfl
 by_cases h0:cvE s q=0
 ·rw[zf (v_ h0)] at hcd;rw[hcd];have hG:=λid=>C1f s (I2 s.types q) id hI (C4X (B48 h0).1);have hg:A9l s (I2 s.types q)=V0 s (I2 s.types q):=by unfold A9l; rw[zf (by simpa using C6l h0)]
  rw[h0,show evV 0 (I2 s.types q) = .sl ((I2 s.types q).map S1) from rfl] at hV;rw[hg] at hG;by_cases h1:V0 s (I2 s.types q)=0
  ·rw[h1] at hG ⊢;rw[show evV 0 (I2 s.types q) = .sl ((I2 s.types q).map S1) from rfl,y9,zj rfl] at *;unfold H4 at *;refine w17.e.1 λE hP hR hl hid=>?_;simp[w17];(refine yH rfl (hV _) ?_; simp);(refine yH rfl (hG _) ?_; simp);exact yP hR
  ·rw[A7u h1];rw[A6k h1] at hG ⊢;unfold H4 at *;refine w17.e.1 λE hP hR hl hid=>?_;simp[w17];(refine yH rfl (hV _) ?_; simp);(refine yH rfl (hG _) ?_; simp);refine A7 (v_ h1) ?_;simp;exact yP hR
 ·rw[zj h0] at hcd;rw[hcd,A6k h0,A7u h0];rw[A7u h0] at hV;unfold H4 at *;refine w17.e.1 λE hP hR hl hid=>?_;simp[w17];(refine yH rfl (hV _) ?_; simp);refine A7 (v_ h0) ?_;simp;exact yP hR
end Go.Am
namespace Go.Am
open Go Go.Proofs Go.Shelf Go.Proofs.Tryz
def B49:Go.Shelf.Ren:=⟨λ|171=>123|243=>190|246=>257|283=>288|284=>289|285=>290|286=>291|129=>310|317=>309|318=>311|319=>312|320=>313|337=>330|338=>331|n=>n,λ|3=>3|9=>9|2=>2|4=>4|171=>329|0=>0|53=>330|37=>238|5=>5|173=>333|212=>350|51=>309|20=>20|213=>351|46=>239|232=>399|233=>400|n=>n,λ|17=>0|18=>4|19=>5|n=>n⟩
def C4Y:Go.Proofs.LaysM.n171 prog B49:={ mixed:=k_,f129:=func310.trans (congrArg some k_),f171:=func123.trans (congrArg some k_),f243:=func190.trans (congrArg some k_),f246:=func257.trans (congrArg some k_),f283:=func288.trans (congrArg some k_),f284:=func289.trans (congrArg some k_),f285:=func290.trans (congrArg some k_),f286:=func291.trans (congrArg some k_),f317:=func309.trans (congrArg some k_),f318:=func311.trans (congrArg some k_),f319:=func312.trans (congrArg some k_),f320:=func313.trans (congrArg some k_),f337:=func330.trans (congrArg some k_),f338:=func331.trans (congrArg some k_),t0:=underlying0,a0:=Tryz.isAgg0,z0:=Tryz.sizeOf0,v0:=Tryz.zeroValue0,t2:=underlying2,a2:=Tryz.isAgg2,z2:=Tryz.sizeOf2,v2:=Tryz.zeroValue2,t3:=underlying3,a3:=Tryz.isAgg3,z3:=Tryz.sizeOf3,v3:=Tryz.zeroValue3,t4:=underlying4,a4:=Tryz.isAgg4,z4:=Tryz.sizeOf4,v4:=Tryz.zeroValue4,t5:=underlying5,a5:=Tryz.isAgg5,z5:=Tryz.sizeOf5,v5:=Tryz.zeroValue5,t9:=underlying9,a9:=Tryz.isAgg9,z9:=Tryz.sizeOf9,v9:=Tryz.zeroValue9,t20:=underlying20,a20:=Tryz.isAgg20,z20:=Tryz.sizeOf20,v20:=Tryz.zeroValue20,t37:=underlying238,a37:=Tryz.isAgg238,z37:=Tryz.sizeOf238,v37:=Tryz.zeroValue238,t46:=underlying239,a46:=Tryz.isAgg239,z46:=Tryz.sizeOf239,v46:=Tryz.zeroValue239,t51:=underlying309,a51:=Tryz.isAgg309,z51:=Tryz.sizeOf309,v51:=Tryz.zeroValue309,t53:=underlying330,a53:=Tryz.isAgg330,z53:=Tryz.sizeOf330,v53:=Tryz.zeroValue330,t171:=underlying329,a171:=Tryz.isAgg329,z171:=Tryz.sizeOf329,v171:=Tryz.zeroValue329,t173:=underlying333,a173:=Tryz.isAgg333,z173:=Tryz.sizeOf333,v173:=Tryz.zeroValue333,t212:=underlying350,a212:=Tryz.isAgg350,z212:=Tryz.sizeOf350,v212:=Tryz.zeroValue350,t213:=underlying351,a213:=Tryz.isAgg351,z213:=Tryz.sizeOf351,t232:=underlying399,a232:=Tryz.isAgg399,z232:=Tryz.sizeOf399,v232:=Tryz.zeroValue399,t233:=underlying400,a233:=Tryz.isAgg400,z233:=Tryz.sizeOf400,v233:=Tryz.zeroValue400,g17:=k_,g18:=k_,g19:=k_,i0:=k_,i2:=k_,i3:=k_,i4:=k_,i5:=k_,i9:=k_,i20:=k_,i37:=k_,i46:=k_,i51:=k_,i53:=k_,i171:=k_,i173:=k_,i212:=k_,i232:=k_,i233:=k_,m17:=k_,m18:=k_,m19:=by kernel_rfl }
def A7L:Go.Shelf.Ren:=⟨λ|156=>125|165=>191|166=>192|169=>193|240=>258|241=>259|276=>292|277=>293|n=>n,λ|31=>23|9=>9|3=>3|4=>4|0=>0|20=>20|72=>242|76=>245|70=>240|37=>238|75=>244|127=>293|164=>335|5=>5|80=>228|n=>n,λ|n=>n⟩
def B7A:Go.Proofs.Lays.n156 prog A7L:={ mixed:=k_,f156:=func125.trans (congrArg some k_),f165:=func191.trans (congrArg some k_),f166:=func192.trans (congrArg some k_),f169:=func193.trans (congrArg some k_),f240:=func258.trans (congrArg some k_),f241:=func259.trans (congrArg some k_),f276:=func292.trans (congrArg some k_),f277:=func293.trans (congrArg some k_),t0:=underlying0,a0:=Tryz.isAgg0,z0:=Tryz.sizeOf0,v0:=Tryz.zeroValue0,t3:=underlying3,a3:=Tryz.isAgg3,z3:=Tryz.sizeOf3,v3:=Tryz.zeroValue3,t4:=underlying4,a4:=Tryz.isAgg4,z4:=Tryz.sizeOf4,v4:=Tryz.zeroValue4,t9:=underlying9,a9:=Tryz.isAgg9,z9:=Tryz.sizeOf9,v9:=Tryz.zeroValue9,t20:=underlying20,a20:=Tryz.isAgg20,z20:=Tryz.sizeOf20,v20:=Tryz.zeroValue20,t31:=underlying23,a31:=Tryz.isAgg23,z31:=Tryz.sizeOf23,v31:=Tryz.zeroValue23,t37:=underlying238,a37:=Tryz.isAgg238,z37:=Tryz.sizeOf238,v37:=Tryz.zeroValue238,t70:=underlying240,a70:=Tryz.isAgg240,z70:=Tryz.sizeOf240,v70:=Tryz.zeroValue240,t72:=underlying242,a72:=Tryz.isAgg242,z72:=Tryz.sizeOf242,v72:=Tryz.zeroValue242,t75:=underlying244,a75:=Tryz.isAgg244,z75:=Tryz.sizeOf244,v75:=Tryz.zeroValue244,t76:=underlying245,a76:=Tryz.isAgg245,z76:=Tryz.sizeOf245,v76:=Tryz.zeroValue245,t127:=underlying293,a127:=Tryz.isAgg293,z127:=Tryz.sizeOf293,v127:=Tryz.zeroValue293,t164:=underlying335,a164:=Tryz.isAgg335,z164:=Tryz.sizeOf335,v164:=Tryz.zeroValue335 }
def B0q:Builder.Extra prog A7L:={ sizeBuilder:=k_,liesBuilder:=k_,t5:=underlying5,a5:=Tryz.isAgg5,z5:=Tryz.sizeOf5,v5:=Tryz.zeroValue5,infoByte:=k_,cellsByte:=k_,sizeByte:=k_,neB5:=by decide }
end Go.Am
namespace Go.Am
end Go.Am
namespace Go.Am
open Go Go.Proofs Go.RowKit Go.Shelf Go.Proofs.Tryz
def C1q : (f123.name == "runtime.NumGoroutine") = false := by decide
theorem C1r:f123.body.isNone=false:=rfl
def C1s : (f125.name == "runtime.NumGoroutine") = false := by decide
theorem C1t:f125.body.isNone=false:=rfl
def B5q:X6 prog 123:=⟨_,func123,C1q,C1r⟩
def B5r:X6 prog 125:=⟨_,func125,C1s,C1t⟩
def B4A : (prog.globalNamed "internal/strconv.uint64pow10").isSome = true := by kernel_rfl
def C1u {w : World} (h : A3L prog w) : Lib.TabIs prog w "internal/strconv.uint64pow10" .u64 Lib.pow10Tab := by
 obtain⟨g,hg⟩:=vv.1 B4A;exact h.tab ("internal/strconv.uint64pow10", .u64, Lib.pow10Tab) (by simp [C5v]) g hg
def B5s{w:World}(k:Nat)(os:Array Obj):Below w.heap.size w (Sort.grow (w.drewN k) os) :=
 ⟨rfl,rfl,rfl,by simp[Sort.grow,World.drewN],λi hi=>by
  show ((w.drewN k).heap++os)[i]?=_;rw[xu (by show i<w.heap.size; exact hi)];rfl⟩
def A1x(n:Int)(id:Nat)(h:I64 n):A2 prog 123 [.int .i64 n] [] id (.str (Lib.itoa n)) []:=by
 refine A4r B5q λC G bx w vs hs hv=>?_;obtain⟨v,rfl,hv1⟩:=A0X hv;cases hv1
 refine (Any.strconv_Itoa C4Y n (by unfold I64 at h; omega) (by unfold I64 at h; omega) w (C1u hs.tabs)).mono ?_;rintro e w' ⟨h1,k,os,rfl⟩;exact⟨_,h1,λ_ _=>.str _,B5s k os⟩
def B1v(xs:List (List UInt8))(sep:List UInt8)(id:Nat)(hN:xs.length<=140737488355328)(hlen:(Lib.join xs sep).length<=140737488355328):
  A2 prog 125 [.sl (xs.map .str),.str sep] [] id (.str (Lib.join xs sep)) []:=by
 refine A4r B5r λC G bx w vs hs hv=>?_;obtain⟨u,v,rfl,hv1,hv2⟩:=A7A hv;cases hv2
 obtain⟨A,c,rfl,h1,h2,h3⟩:=B6g hs hv1;have hmap:(xs.map λx=>(⟨⟨x⟩⟩:ByteArray)).map (·.data.toList)=xs:=by simp[Function.comp_def]
 rcases h3 with rfl|⟨b,o,rfl,h4,h5⟩
 ·refine (Any.strings_Join_none B7A B0q A c ⟨⟨sep⟩⟩ w).mono ?_;rintro e w' ⟨q1,rfl⟩;exact⟨_,q1,λ_ _=>.str _,Below.refl _ _⟩
 ·have:=Any.strings_Join B7A B0q b o c (xs.map λx=>⟨⟨x⟩⟩) ⟨⟨sep⟩⟩ w (λj x hx=>by
   rw[yj] at hx;cases hj:xs[j]? with
   | none=>rw[hj] at hx; cases hx
   | some y=>rw[hj] at hx; injection hx with hx; subst hx; exact h5 j y hj) h4 (v_ hN) (v_ h1) (by rw[hmap]; exact hlen)
  rw[hmap] at this;simp only[xf] at this;refine this.mono ?_;rintro e w' ⟨q1,q2⟩;exact⟨_,q1,λ_ _=>.str _,q2⟩
def B4B:Go.Shelf.Ren:=⟨λ|172=>280|244=>306|245=>307|247=>324|279=>325|280=>326|281=>327|282=>328|287=>342|316=>343|171=>123|205=>344|321=>355|322=>356|243=>190|246=>257|283=>288|284=>289|285=>290|286=>291|129=>310|317=>309|318=>311|319=>312|320=>313|337=>330|338=>331|n=>n,λ|9=>9|3=>3|75=>244|76=>245|4=>4|5=>5|167=>370|37=>238|0=>0|85=>371|2=>2|168=>373|53=>330|175=>394|46=>239|210=>397|127=>293|145=>414|143=>412|21=>21|171=>329|173=>333|212=>350|51=>309|20=>20|213=>351|232=>399|233=>400|80=>228|n=>n,λ|15=>2|16=>3|17=>0|18=>4|19=>5|n=>n⟩
def B1w:Go.Proofs.LaysC.n172 prog B4B:={ mixed:=k_,f129:=func310.trans (congrArg some k_),f171:=func123.trans (congrArg some k_),f172:=func280.trans (congrArg some k_),f205:=func344.trans (congrArg some k_),f243:=func190.trans (congrArg some k_),f244:=func306.trans (congrArg some k_),f245:=func307.trans (congrArg some k_),f246:=func257.trans (congrArg some k_),f247:=func324.trans (congrArg some k_),f279:=func325.trans (congrArg some k_),f280:=func326.trans (congrArg some k_),f281:=func327.trans (congrArg some k_),f282:=func328.trans (congrArg some k_),f283:=func288.trans (congrArg some k_),f284:=func289.trans (congrArg some k_),f285:=func290.trans (congrArg some k_),f286:=func291.trans (congrArg some k_),f287:=func342.trans (congrArg some k_),f316:=func343.trans (congrArg some k_),f317:=func309.trans (congrArg some k_),f318:=func311.trans (congrArg some k_),f319:=func312.trans (congrArg some k_),f320:=func313.trans (congrArg some k_),f321:=func355.trans (congrArg some k_),f322:=func356.trans (congrArg some k_),f337:=func330.trans (congrArg some k_),f338:=func331.trans (congrArg some k_),t0:=underlying0,a0:=Tryz.isAgg0,z0:=Tryz.sizeOf0,v0:=Tryz.zeroValue0,t2:=underlying2,a2:=Tryz.isAgg2,z2:=Tryz.sizeOf2,v2:=Tryz.zeroValue2,t3:=underlying3,a3:=Tryz.isAgg3,z3:=Tryz.sizeOf3,v3:=Tryz.zeroValue3,t4:=underlying4,a4:=Tryz.isAgg4,z4:=Tryz.sizeOf4,v4:=Tryz.zeroValue4,t5:=underlying5,a5:=Tryz.isAgg5,z5:=Tryz.sizeOf5,v5:=Tryz.zeroValue5,t9:=underlying9,a9:=Tryz.isAgg9,z9:=Tryz.sizeOf9,v9:=Tryz.zeroValue9,t20:=underlying20,a20:=Tryz.isAgg20,z20:=Tryz.sizeOf20,v20:=Tryz.zeroValue20,t21:=underlying21,a21:=Tryz.isAgg21,z21:=Tryz.sizeOf21,v21:=Tryz.zeroValue21,t37:=underlying238,a37:=Tryz.isAgg238,z37:=Tryz.sizeOf238,v37:=Tryz.zeroValue238,t46:=underlying239,a46:=Tryz.isAgg239,z46:=Tryz.sizeOf239,v46:=Tryz.zeroValue239,t51:=underlying309,a51:=Tryz.isAgg309,z51:=Tryz.sizeOf309,v51:=Tryz.zeroValue309,t53:=underlying330,a53:=Tryz.isAgg330,z53:=Tryz.sizeOf330,v53:=Tryz.zeroValue330,t75:=underlying244,a75:=Tryz.isAgg244,z75:=Tryz.sizeOf244,v75:=Tryz.zeroValue244,t76:=underlying245,a76:=Tryz.isAgg245,z76:=Tryz.sizeOf245,v76:=Tryz.zeroValue245,t85:=underlying371,a85:=Tryz.isAgg371,z85:=Tryz.sizeOf371,v85:=Tryz.zeroValue371,t127:=underlying293,a127:=Tryz.isAgg293,z127:=Tryz.sizeOf293,v127:=Tryz.zeroValue293,t143:=underlying412,a143:=Tryz.isAgg412,z143:=Tryz.sizeOf412,v143:=Tryz.zeroValue412,t145:=underlying414,a145:=Tryz.isAgg414,z145:=Tryz.sizeOf414,v145:=Tryz.zeroValue414,t167:=underlying370,a167:=Tryz.isAgg370,z167:=Tryz.sizeOf370,v167:=Tryz.zeroValue370,t168:=underlying373,a168:=Tryz.isAgg373,z168:=Tryz.sizeOf373,v168:=Tryz.zeroValue373,t171:=underlying329,a171:=Tryz.isAgg329,z171:=Tryz.sizeOf329,v171:=Tryz.zeroValue329,t173:=underlying333,a173:=Tryz.isAgg333,z173:=Tryz.sizeOf333,v173:=Tryz.zeroValue333,t175:=underlying394,a175:=Tryz.isAgg394,z175:=Tryz.sizeOf394,v175:=Tryz.zeroValue394,t210:=underlying397,a210:=Tryz.isAgg397,z210:=Tryz.sizeOf397,v210:=Tryz.zeroValue397,t212:=underlying350,a212:=Tryz.isAgg350,z212:=Tryz.sizeOf350,v212:=Tryz.zeroValue350,t213:=underlying351,a213:=Tryz.isAgg351,z213:=Tryz.sizeOf351,t232:=underlying399,a232:=Tryz.isAgg399,z232:=Tryz.sizeOf399,v232:=Tryz.zeroValue399,t233:=underlying400,a233:=Tryz.isAgg400,z233:=Tryz.sizeOf400,v233:=Tryz.zeroValue400,g15:=k_,g16:=k_,g17:=k_,g18:=k_,g19:=k_,t80:=underlying228,a80:=Tryz.isAgg228,z80:=Tryz.sizeOf228,v80:=Tryz.zeroValue228,i0:=k_,i2:=k_,i3:=k_,i4:=k_,i5:=k_,i9:=k_,i20:=k_,i21:=k_,i37:=k_,i46:=k_,i51:=k_,i53:=k_,i75:=k_,i76:=k_,i80:=k_,i85:=k_,i127:=k_,i143:=k_,i145:=k_,i167:=k_,i168:=k_,i171:=k_,i173:=k_,i175:=k_,i210:=k_,i212:=k_,i232:=k_,i233:=k_,m15:=k_,m16:=k_,m17:=k_,m18:=k_,m19:=k_,c0:=k_,c2:=k_,c3:=k_,c4:=k_,c5:=k_,c9:=k_,c20:=k_,c21:=k_,c37:=k_,c46:=k_,c51:=k_,c53:=k_,c75:=k_,c76:=k_,c80:=k_,c85:=k_,c127:=k_,c143:=k_,c145:=k_,c167:=k_,c168:=k_,c171:=k_,c173:=k_,c175:=k_,c210:=k_,c212:=k_,c213:=k_,c232:=k_,c233:=by kernel_rfl }
def C1v : (f280.name == "runtime.NumGoroutine") = false := by decide
theorem C1w:f280.body.isNone=false:=rfl
def A53:X6 prog 280:=⟨_,func280,C1v,C1w⟩
def C6m {w : World} (h : A3L prog w) : ∃ v, w.cell? ⟨2, 0, none⟩ = some v /\ (v = .nilIface \/ ∃ te pe, v = .iface te pe) := h.err "strconv.ErrSyntax" (by simp [C3V]) _ k_
def C6n {w : World} (h : A3L prog w) : ∃ v, w.cell? ⟨3, 0, none⟩ = some v /\ (v = .nilIface \/ ∃ te pe, v = .iface te pe) := h.err "strconv.ErrRange" (by simp [C3V]) _ k_
def B5t{G:Gh}{w:World}{x y:AV}{u v:Value}(h1:RV G w x u)(h2:RV G w y v):RV G w (.tup [x,y]) (.tuple #[u,v]):=.tup _ _ rfl λi z hz=>by
 match i,hz with
 | 0,hz=>simp at hz; subst hz; exact h1
 | 1,hz=>simp at hz; subst hz; exact h2
 | i+2,hz=>simp at hz
def A54:AV:=.iface 373 (.cptr [])
def B0r{G:Gh}{w:World}(a:Addr):RV G w A54 (.iface 373 (.pointer (some a))):=.iface _ _ _ (.cptr [] a (λ_=>undef) (λj y h=>by simp at h) (λj y h=>by simp at h) (λj y h=>by simp at h))
def B7B(s:List UInt8)(n:Int)(id:Nat)(h:s.length<=281474976710656)(hn:Lib.atoiAll s = .ok n):A2 prog 280 [.str s] [] id (.tup [.int .i64 n,.nili]) []:=by
 refine A4r A53 λC G bx w vs hs hv=>?_;obtain⟨v,rfl,hv1⟩:=A0X hv;cases hv1
 refine (Any.strconv_Atoi_ok B1w ⟨⟨s⟩⟩ (by show s.length<=_; omega) n hn w).mono ?_;rintro e w' ⟨h1,hw⟩;refine⟨_,h1,λ_ _=>B5t (.int _ _) .nili,?_⟩;rcases hw with rfl|⟨t,rfl⟩
 ·exact Below.refl _ _
 ·exact Lib.bytesWorld_below _ _ _
def B4C(s:List UInt8)(id:Nat)(h:s.length<=281474976710656){e:Lib.NumEnd Int}(hn:Lib.atoiAll s=e)(h1:∀n,e≠.ok n)(h2:e≠.range):A2 prog 280 [.str s] [] id (.tup [.int .i64 0,A54]) []:=by
 refine A4r A53 λC G bx w vs hs hv=>?_;obtain⟨v,rfl,hv1⟩:=A0X hv;cases hv1
 obtain⟨ev,k1,k2⟩:=C6m hs.tabs;rcases e with n|_|_
 ·exact (h1 n rfl).elim
 rotate_left
 ·exact (h2 rfl).elim
 refine (Any.strconv_Atoi_syntax B1w ⟨⟨s⟩⟩ h hn ev w k1 k2).mono ?_;rintro e w' ⟨N,h1,_,_,h4⟩;exact⟨_,h1,λ_ _=>B5t (.int _ _) (B0r _),h4⟩
def B4D(s:List UInt8)(id:Nat)(h:s.length<=281474976710656)(hn:Lib.atoiAll s = .range):A2 prog 280 [.str s] [] id (.tup [.int .i64 (Lib.atoiSat s),A54]) []:=by
 refine A4r A53 λC G bx w vs hs hv=>?_;obtain⟨v,rfl,hv1⟩:=A0X hv;cases hv1
 obtain⟨ev,k1,k2⟩:=C6n hs.tabs;refine (Any.strconv_Atoi_range B1w ⟨⟨s⟩⟩ h hn ev w k1 k2).mono ?_;rintro e w' ⟨N,h1,_,_,h4⟩;exact⟨_,h1,λ_ _=>B5t (.int _ _) (B0r _),h4⟩
end Go.Am
namespace Go.Am
open Go Go.Proofs Go.RowKit Go.Proofs.Tryz
def dgB(c:UInt8):Bool:=48<=c.toNat&&c.toNat<=57
def A05(l:List UInt8):Nat:=l.foldl (λa c=>10*a+(c.toNat - 48)) 0
def A2X(n:Nat):(UInt8.ofNat n).toNat=n % 256:=by simp
def A7v(u:Nat):∀c∈Lib.decDigits u,dgB c=true:=by
 induction u using Nat.strongRecOn with
 | _ u ih =>
  rw[Lib.decDigits];split
  ·rename_i h;intro c hc;obtain rfl:=wj.1 hc;simp only[dgB,A2X,yk,decide_eq_true_eq];omega
  ·rename_i h;intro c hc;rcases zr.1 hc with hc|hc
   ·exact ih (u / 10) o_ c hc
   ·obtain rfl:=wj.1 hc;simp only[dgB,A2X,yk,decide_eq_true_eq];omega
def A96(u:Nat):A05 (Lib.decDigits u)=u:=by
 induction u using Nat.strongRecOn with
 | _ u ih =>
  rw[Lib.decDigits];split
  ·rename_i h;simp only[A05,wc,List.foldl_nil,A2X];omega
  ·rename_i h;have:=ih (u / 10) o_;unfold A05 at this ⊢;rw[List.foldl_append,this];simp only[wc,List.foldl_nil,A2X];omega
def C1x:∀(l:List UInt8) (acc:Nat),acc<=l.foldl (λa c=>10*a+(c.toNat - 48)) acc
 | [],acc=>zx _
 | c::r,acc=>tk o_ (C1x r (10*acc+(c.toNat - 48)))
def C5b:∀(l:List UInt8) (acc:Nat),(∀c∈l,dgB c=true)->l.foldl (λa c=>10*a+(c.toNat - 48)) acc<1844674407370955162->Lib.parseUint10 acc l = .ok (l.foldl (λa c=>10*a+(c.toNat - 48)) acc)
 | [],acc,_,_=>rfl
 | c::r,acc,hd,hv=>by
  have hc:48<=c.toNat/\c.toNat<=57:=by simpa [dgB] using hd c (za ..)
  have hm:=C1x r (10*acc+(c.toNat - 48));simp only[wc] at hv ⊢;have e:acc*10+(c.toNat - 48)=10*acc+(c.toNat - 48):=by omega
  simp only[Lib.parseUint10];rw[zj hc,zf o_,zf o_,e];exact C5b r _ (λx hx=>hd x (zb _ hx)) hv
def B7C(u:Nat):Lib.decDigits u≠[]:=λhd=>by
 have:=congrArg List.length hd;rw[Lib.decDigits] at this;split at this<;>simp at this
def B7D{u:Nat}(hu:u<=999999999):Lib.parseMag (Lib.decDigits u) = .ok u:=by
 have hv:=A96 u;have hd:=A7v u;unfold Lib.parseMag;rw[zf (B7C u)];unfold A05 at hv;rw[C5b _ _ hd o_,hv]
def B0s{n:Int}(h : -999999999<=n/\n<=999999999):Lib.atoiAll (Lib.itoa n) = .ok n:=by
 unfold Lib.itoa;split
 ·rename_i hn;have h1:=B7D (u:=n.natAbs) o_;simp only[Lib.atoiAll];rw[zj (.inr d_),h1];simp only;rw[zf (by rintro⟨h,_⟩; exact h d_),zf (by rintro⟨_,h⟩; omega),zj d_];congr 1
  omega
 ·cases hd:Lib.decDigits n.toNat with
  | nil=>exact (B7C _ hd).elim
  | cons c r =>
   have hc:=A7v n.toNat c (by rw[hd]; exact za ..);have hc:48<=c.toNat/\c.toNat<=57:=(by simpa [dgB] using hc);have h1:=B7D (u:=n.toNat) o_;rw[hd] at h1;simp only[Lib.atoiAll];rw[zf o_,h1];simp only;rw[zf o_,zf o_,zf o_];congr 1
   omega
def V6{u:Nat}(h:u<10):Lib.decDigits u=[UInt8.ofNat (48+u)]:=by rw[Lib.decDigits,dif_pos h]
def A7w{u:Nat}(h:¬u<10):Lib.decDigits u=Lib.decDigits (u / 10)++Lib.decDigits (u % 10):=by
 rw[Lib.decDigits,dif_neg h,V6 (show u % 10<10 by omega)]
def A4P{u:Nat}(h:u<=999999999):(Lib.decDigits u).length<=9:=by
 have key:∀(k u:Nat),u<10 ^ (k+1)->(Lib.decDigits u).length<=k+1:=λk=>by
  induction k with
  | zero=>intro u h; rw[V6 (v_ h)]; simp
  | succ k ih =>
   intro u h;by_cases hu:u<10
   ·rw[V6 hu]; simp
   ·rw[A7w hu,V6 (show u % 10<10 by omega),zu];have:=ih (u / 10) (by rw[Nat.pow_succ] at h; omega);simp; omega
 exact key 8 u o_
def A97:∀(m u id:Nat),u<m->u<=999999999->A2 prog 147 [.int .i64 u] [] id (.str (Lib.decDigits u)) []
 | 0,u,id,h,_=>by omega
 | m+1,u,id,h,h9=>by
  by_cases hu:u<10
  ·rw[V6 hu];have e1:IntKind.i64.wrap (48+(u:Int))=48+(u:Int):=wrap64 o_;have e2:IntKind.u8.wrap (48+(u:Int))=48+(u:Int):=(by simp[IntKind.wrap,IntKind.signed,IntKind.bits]; omega);have e5:A6E (.int .u8 (48+(u:Int)))=UInt8.ofNat (48+u):=by
    show UInt8.ofNat (48+(u:Int)).toNat=_;congr 1
   have e6:A5C (.int .u8 (48+(u:Int)))=true:=(by simp[A5C]; try omega);refine w147.e.1 λE hP hR hl hid=>?_;simp[w147];refine A0 m_ ?_;simp;refine A0 s_ ?_;simp;refine A7 m_ ?_;simp[e1,e2];rw[e5];refine⟨e6,?_⟩;exact yP hR
  ·rw[A7w hu];have h1:=λid=>A97 m (u / 10) id o_ o_;have h2:=λid=>A97 m (u % 10) id o_ o_;have l1:=A4P (u:=u / 10) o_;have l2:=A4P (u:=u % 10) o_;refine w147.e.1 λE hP hR hl hid=>?_;simp[w147];refine A0 m_ ?_;simp;refine A0 s_ ?_;simp;refine A0 m_ ?_;have e3:IntKind.i64.wrap ((u:Int) / 10)=((u / 10:Nat):Int):=(by rw[show (u:Int) / 10=((u / 10:Nat):Int) by omega]; exact wrap64 o_);have e4:IntKind.i64.wrap ((u:Int) % 10)=((u % 10:Nat):Int):=(by rw[show (u:Int) % 10=((u % 10:Nat):Int) by omega]; exact wrap64 o_);simp[e3];(refine yC rfl (h1 _) ?_; simp);(refine yC rfl (h2 _) ?_; simp);refine⟨o_,?_⟩;exact yP hR
def B4E(neg:Bool)(e:List UInt8):Option Int :=
 if e.length<1\/9<e.length\/(e.head?=some 48/\(1<e.length\/neg=true)) then none else if e.all dgB=true then some (if neg=true then -(A05 e:Int) else (A05 e:Int)) else none
def A0e:List UInt8->Option Int
 | 45::r=>B4E true r
 | d=>B4E false d
theorem B97(r:List UInt8):A0e (45::r)=B4E true r:=rfl
def B98{d:List UInt8}(h:d.head?≠some 45):A0e d=B4E false d:=by
 unfold A0e;split
 ·exact (h rfl).elim
 ·rfl
def B0t(l:List UInt8)(c:UInt8):A05 (l++[c])=10*A05 l+(c.toNat - 48):=by simp[A05]
def B7E{l:List UInt8}(h:∀c∈l,dgB c=true):∀i:Nat,i<=l.length->A05 (l.take i)<10 ^ i
 | 0,_=>by simp[A05]
 | i+1,hi=>by
  obtain⟨c,hc⟩:∃c,l[i]?=some c:=⟨_,zc o_⟩;have h1:=B7E h i o_;have h2:48<=c.toNat/\c.toNat<=57:=by simpa [dgB] using h c (zg hc)
  rw[L0 hc,B0t,Nat.pow_succ];omega
def B4F{l:List UInt8}(h:∀c∈l,dgB c=true):l.all dgB=true:=by simpa using h
def C9O{n:Nat}(h:n<=9):10 ^ n<=1000000000:=Nat.pow_le_pow_right (n:=10) o_ h
def A5m:∀(m u:Nat),u<m->∃c r,Lib.decDigits u=c::r/\dgB c=true/\(c=48->u=0/\r=[])
 | 0,u,h=>by omega
 | m+1,u,h=>by
  by_cases hu:u<10
  ·refine⟨UInt8.ofNat (48+u),[],V6 hu,?_,λh=>?_⟩
   ·simp only[dgB,A2X,yk,decide_eq_true_eq];omega
   ·have:=congrArg UInt8.toNat h;simp only[A2X] at this;rw[show (48:UInt8).toNat=48 from rfl] at this;exact⟨o_,rfl⟩
  ·obtain⟨c,r,h1,h2,h3⟩:=A5m m (u / 10) o_;refine⟨c,r++Lib.decDigits (u % 10),by rw[A7w hu,h1]; rfl,h2,λh=>?_⟩;have:=(h3 h).1;omega
def C9P{c:UInt8}(h:dgB c=true):48<=c.toNat/\c.toNat<=57:=by simpa [dgB] using h
def B7F:∀(m:Nat) (e:List UInt8),e.length<m->e≠[]->(∀c∈e,dgB c=true)->(e.head?=some 48->e.length=1)->Lib.decDigits (A05 e)=e
 | 0,e,h,_,_,_=>by omega
 | m+1,e,h,hne,hd,h0=>by
  rcases List.eq_nil_or_concat e with rfl|⟨f,c,rfl⟩
  ·exact (hne rfl).elim
  have hc:=C9P (hd c s_);rw[List.concat_eq_append] at *;rw[B0t];have hc2:UInt8.ofNat (48+(c.toNat - 48))=c:=by rw[show 48+(c.toNat - 48)=c.toNat by omega]; simp
  cases f with
  | nil =>
   rw[show A05 []=0 from rfl,V6 o_];simp only[Nat.mul_zero,yy,hc2,xq]
  | cons a f =>
   have ha:a≠48:=λq=>by
    have:=h0 (t_ q);simp at this
   have ih:=B7F m (a::f) (by simp at h ⊢; omega) s_ (λx hx=>hd x (by simp at hx ⊢; rcases hx with hx|hx<;>simp[hx])) (λq=>by simp at q; exact (ha q).elim);have hpos:1<=A05 (a::f):=by
    obtain⟨c',r',q1,_,q3⟩:=A5m (A05 (a::f)+1) (A05 (a::f)) (xx _);rcases uj (A05 (a::f)) with q|q
    ·exfalso;rw[q] at ih;rw[V6 o_] at ih;simp at ih;exact ha ih.1.symm
    ·exact q
   rw[A7w o_,show (10*A05 (a::f)+(c.toNat - 48)) / 10=A05 (a::f) by omega,show (10*A05 (a::f)+(c.toNat - 48)) % 10=c.toNat - 48 by omega,ih,V6 o_,hc2]
def B5u{n:Int}(h : -999999999<=n/\n<=999999999):A0e (Lib.itoa n)=some n:=by
 unfold Lib.itoa;split
 ·rename_i hn;obtain⟨c,r,h1,h2,h3⟩:=A5m (n.natAbs+1) n.natAbs (xx _);have hl:=A4P (u:=n.natAbs) o_;have hv:=A96 n.natAbs;have hd:=A7v n.natAbs;rw[h1] at hl hv hd ⊢;rw[B97];unfold B4E;rw[zf (by
   rintro (q|q|⟨q,_⟩)
   ·simp at q
   ·omega
   ·simp at q; have:=(h3 q).1; omega),zj (B4F hd),zj rfl,hv]
  congr 1
  omega
 ·obtain⟨c,r,h1,h2,h3⟩:=A5m (n.toNat+1) n.toNat (xx _);have hl:=A4P (u:=n.toNat) o_;have hv:=A96 n.toNat;have hd:=A7v n.toNat;rw[h1] at hl hv hd ⊢;rw[B98 (by intro q; simp at q; rw[q] at h2; revert h2; decide)];unfold B4E;rw[zf (by
   rintro (q|q|⟨q,q2|q2⟩)
   ·simp at q
   ·omega
   ·simp at q; have:=(h3 q).2; rw[this] at q2; simp at q2
   ·cases q2),zj (B4F hd),zf s_,hv]
  congr 1
  omega
def B0u{neg:Bool}{e:List UInt8}{n:Int}(h:B4E neg e=some n):n=(if neg=true then -(A05 e:Int) else (A05 e:Int))/\Lib.decDigits (A05 e)=e/\A05 e<=999999999/\(neg=true->1<=A05 e):=by
 unfold B4E at h;split at h
 ·cases h
 rename_i h1;split at h
 rotate_left
 ·cases h
 rename_i h2;injection h with h
 have hd:∀c∈e,dgB c=true:=by simpa using h2
 have hne:e≠[]:=λq=>h1 (.inl (t_ q));have hl9:e.length<=9:=by
  rcases yd 9 e.length with q|q
  ·exact (h1 (.inr (.inl q))).elim
  ·exact q
 have hl1:1<=e.length:=by cases e; exact (hne rfl).elim; simp
 have h48:e.head?=some 48->e.length=1:=λq=>by
  rcases yd 1 e.length with q2|q2
  ·exact (h1 (.inr (.inr ⟨q,.inl q2⟩))).elim
  ·omega
 have hv:=B7F (e.length+1) e (xx _) hne hd h48;have hlt:=B7E hd e.length (zx _);rw[zm (zx _)] at hlt;have h10:=C9O hl9;refine⟨h.symm,hv,o_,λq=>?_⟩;rcases uj (A05 e) with q2|q2
 ·exfalso;rw[q2,V6 o_] at hv;exact h1 (.inr (.inr ⟨by rw[←hv]; rfl,.inr q⟩))
 ·exact q2
def A98{d:List UInt8}{n:Int}(h:A0e d=some n):Lib.itoa n=d/\-999999999<=n/\n<=999999999:=by
 unfold A0e at h;split at h
 ·rename_i r;obtain⟨h1,h2,h3,h4⟩:=B0u h;have h4:=h4 rfl;rw[zj rfl] at h1;refine⟨?_,o_,o_⟩;unfold Lib.itoa;rw[zj o_,show n.natAbs=A05 r by omega,h2]
 ·obtain⟨h1,h2,h3,_⟩:=B0u h;rw[zf s_] at h1;refine⟨?_,o_,o_⟩;unfold Lib.itoa;rw[zf o_,show n.toNat=A05 d by omega,h2]
structure Tk where
 kind:Int
 text:List UInt8
 n:Int
def blC(c:UInt8):Bool:=c==9||c==10||c==13||c==32||c==44
def blk:Bool->List UInt8->List UInt8
 | _,[]=>[]
 | false,c::r=>if blC c=true then blk false r else if c=35 then blk true r else c::r
 | true,c::r=>if c=10 then blk false r else blk true r
def sgC(c:UInt8):Bool:=[123,125,40,41,58,91,93].contains c
def pTq:Bool->List UInt8->List UInt8->Option (List UInt8×List UInt8)
 | _,_,[]=>none
 | false,acc,c::r=>if c=10 then none else if c=34 then some (acc,r) else if c=92 then pTq true acc r else pTq false (acc++[c]) r
 | true,acc,c::r=>if c=34\/c=92 then pTq false (acc++[c]) r else if c=110 then pTq false (acc++[10]) r else none
def A18(c:UInt8)(r:List UInt8):List UInt8:=c::r.takeWhile g9
def A0k(c:UInt8)(r:List UInt8):Except Int (Tk×List UInt8) :=
 if A7W c=true then (if H8 ((c::r).takeWhile anC)=0 then .ok (⟨1,(c::r).takeWhile anC,0⟩,(c::r).dropWhile anC) else .error (H8 ((c::r).takeWhile anC)))
 else if g9 c=true\/c=45 then (match A0e (A18 c r) with
  | none=>.error 1
  | some n=>.ok (⟨2,[],n⟩,r.dropWhile g9))
 else if c=34 then (match pTq false [] r with
  | none=>.error 1
  | some p=>if 40<p.1.length then .error 2 else .ok (⟨3,p.1,0⟩,p.2))
 else if sgC c=true then .ok (⟨4,[c],0⟩,r)
 else .error 1
def s9:Nat->List Tk->List UInt8->Except Int (List Tk)
 | 0,_,_=>.error 1
 | n+1,acc,s=>match blk false s with
  | []=>.ok acc
  | c::r=>match A0k c r with
   | .error e=>.error e
   | .ok p=>if 300<acc.length+1 then .error 2 else s9 n (acc++[p.1]) p.2
def A29(s:List UInt8):Except Int (List Tk):=s9 (s.length+1) [] s
def A5n(s:List UInt8):Except Int (List Tk):=if 2000<s.length then .error 2 else A29 s
def A34:∀(b:Bool) (s:List UInt8),(blk b s).length<=s.length
 | false,[]=>zx _
 | true,[]=>zx _
 | false,c::r=>by
  have h1:=A34 false r;have h2:=A34 true r;unfold blk;split
  ·simp; omega
  ·split
   ·simp; omega
   ·exact zx _
 | true,c::r=>by
  have h1:=A34 false r;have h2:=A34 true r;unfold blk;split<;>(simp; omega)
def A4Q:∀(b:Bool) (s:List UInt8),blk b s <:+ s
 | false,[]=>so _
 | true,[]=>so _
 | false,c::r=>by
  have h1:=A4Q false r;have h2:=A4Q true r;unfold blk;split
  ·exact h1.trans (ww c r)
  ·split
   ·exact h2.trans (ww c r)
   ·exact so _
 | true,c::r=>by
  have h1:=A4Q false r;have h2:=A4Q true r;unfold blk;split
  ·exact h1.trans (ww c r)
  ·exact h2.trans (ww c r)
def A2Y:∀(b:Bool) (s:List UInt8) (c:UInt8) (r:List UInt8),blk b s=c::r->blC c=false/\c≠35
 | false,[],c,r,h=>by cases h
 | true,[],c,r,h=>by cases h
 | false,d::t,c,r,h=>by
  unfold blk at h;split at h
  ·exact A2Y false t c r h
  ·rename_i h1;split at h
   ·exact A2Y true t c r h
   ·rename_i h2;injection h with h3 h4
    subst h3;exact⟨v_ h1,h2⟩
 | true,d::t,c,r,h=>by
  unfold blk at h;split at h
  ·exact A2Y false t c r h
  ·exact A2Y true t c r h
def B7G{c:UInt8}{r:List UInt8}(h1:blC c=false)(h2:c≠35):blk false (c::r)=c::r:=by
 unfold blk;rw[zf (t_ h1),zf h2]
def A1y(b:Bool)(s:List UInt8):blk false (blk b s)=blk b s:=by
 cases h:blk b s with
 | nil=>rfl
 | cons c r=>exact B7G (A2Y b s c r h).1 (A2Y b s c r h).2
def A99:∀(b:Bool) (acc s t u:List UInt8),pTq b acc s=some (t,u)->u.length<s.length/\u <:+ s
 | false,acc,[],t,u,h=>by cases h
 | true,acc,[],t,u,h=>by cases h
 | false,acc,c::r,t,u,h=>by
  unfold pTq at h;split at h
  ·cases h
  split at h
  ·simp only[zd,zh] at h;rw[←h.2]; exact⟨s_,ww c r⟩
  split at h
  ·have:=A99 true acc r t u h;exact⟨m_,this.2.trans (ww c r)⟩
  ·have:=A99 false _ r t u h;exact⟨m_,this.2.trans (ww c r)⟩
 | true,acc,c::r,t,u,h=>by
  unfold pTq at h;split at h
  ·have:=A99 false _ r t u h;exact⟨m_,this.2.trans (ww c r)⟩
  split at h
  ·have:=A99 false _ r t u h;exact⟨m_,this.2.trans (ww c r)⟩
  ·cases h
def C4Z{c:UInt8}(h:A7W c=true):anC c=true:=by unfold anC; rw[h]; rfl
def A5o{c:UInt8}{r u:List UInt8}{t:Tk}(h:A0k c r = .ok (t,u)):u.length<=r.length/\u <:+ r:=by
 unfold A0k at h;split at h
 ·rename_i h1;split at h
  ·injection h with h
   rw[zh] at h;rw[←h.2,wk (C4Z h1)];exact⟨(um _).length_le,um _⟩
  ·cases h
 split at h
 ·split at h
  ·cases h
  ·injection h with h
   rw[zh] at h;rw[←h.2];exact⟨(um _).length_le,um _⟩
 split at h
 ·split at h
  ·cases h
  ·rename_i p hp;split at h
   ·cases h
   ·injection h with h
    rw[zh] at h;obtain⟨p1,p2⟩:=p;have:=A99 _ _ _ _ _ hp;rw[←h.2]; exact⟨n_,this.2⟩
 split at h
 ·injection h with h
  rw[zh] at h;rw[←h.2]; exact⟨zx _,so _⟩
 ·cases h
inductive RdT:List UInt8->List Tk->Prop
 | nil {s:List UInt8}:blk false s=[]->RdT s []
 | cons {s r u:List UInt8} {c:UInt8} {t:Tk} {l:List Tk}:blk false s=c::r->A0k c r = .ok (t,u)->RdT u l->RdT s (t::l)
def B7H:∀(n:Nat) (s:List UInt8) (acc l:List Tk),s9 n acc s = .ok l->acc.length<=300->∃l',l=acc++l'/\RdT s l'/\l.length<=300
 | 0,s,acc,l,h,_=>by cases h
 | n+1,s,acc,l,h,ha=>by
  unfold s9 at h;split at h
  ·rename_i hb;injection h with h
   exact⟨[],by rw[h]; simp,.nil hb,by rw[←h]; exact ha⟩
  ·rename_i c r hb;split at h
   ·cases h
   ·rename_i p hp;split at h
    ·cases h
    ·obtain⟨l',h1,h2,h3⟩:=B7H n p.2 (acc++[p.1]) l h m_;exact⟨p.1::l',by rw[h1]; simp,.cons hb hp h2,h3⟩
def C4a{s:List UInt8}{l:List Tk}(h:RdT s l):∀(n:Nat) (acc:List Tk),s.length<n->acc.length+l.length<=300->s9 n acc s = .ok (acc++l):=by
 induction h with
 | nil hb =>
  intro n acc hn hl;obtain⟨n,rfl⟩:=ws (show n≠0 by omega);simp only[s9];rw[hb]; simp
 | @cons s r u c t l hb hp _ ih =>
  intro n acc hn hl;obtain⟨n,rfl⟩:=ws (show n≠0 by omega);have h1:=A34 false s;have h2:=A5o hp;rw[hb] at h1;simp only[zt] at h1 hl;simp only[s9];rw[hb];simp only;rw[hp];simp only;rw[zf o_,ih n (acc++[t]) o_ m_];simp
def B1x(s:List UInt8)(l:List Tk):A5n s = .ok l↔s.length<=2000/\RdT s l/\l.length<=300:=by
 unfold A5n A29;constructor
 ·intro h;split at h
  ·cases h
  ·obtain⟨l',h1,h2,h3⟩:=B7H _ _ _ _ h s_;rw[xq] at h1;subst h1;exact⟨o_,h2,h3⟩
 ·rintro⟨h1,h2,h3⟩;rw[zf o_,C4a h2 _ _ o_ (v_ h3)];simp
def fTk(t:Tk):Int :=
 if t.kind<1\/4<t.kind then 7
 else if (t.kind=2/\t.text≠[])\/(t.kind≠2/\t.n≠0) then 1
 else if t.kind=1 then H8 t.text
 else if t.kind=2 then (if -999999999<=t.n/\t.n<=999999999 then 0 else 3)
 else if t.kind=3 then (if 40<t.text.length then 2 else 0)
 else (if t.text.length=1/\t.text.all sgC=true then 0 else 1)
def lQ(c:UInt8):List UInt8:=if c=34 then [92,34] else if c=92 then [92,92] else if c=10 then [92,110] else [c]
def lQs(s:List UInt8):List UInt8:=s.flatMap lQ
def A35(t:Tk):List UInt8:=if t.kind=2 then Lib.itoa t.n else if t.kind=3 then 34::lQs t.text++[34] else t.text
def tkB(l:List Tk):List UInt8:=Lib.join (l.map A35) [32]
theorem C4b:tkB []=[]:=rfl
def C1y(t:Tk)(l:List Tk):tkB (t::l)=A35 t++l.flatMap λx=>32::A35 x:=by
 unfold tkB;cases l with
 | nil=>simp[Lib.join]
 | cons u l =>
  have key:∀(l:List (List UInt8)) (a:List UInt8),Lib.join (a::l) [32]=a++l.flatMap λx=>32::x:=λl=>by
   induction l with
   | nil=>intro a; simp[Lib.join]
   | cons b l ih =>
    intro a;have:=ih b;simp[Lib.join] at this ⊢;try rw[this]
  rw[yg,key];simp[List.flatMap_map]
def A6l:∀(n m:Nat) (acc:List Tk) (s t:List UInt8),blk false s=blk false t->(blk false s).length<n->(blk false s).length<m->s9 n acc s=s9 m acc t
 | 0,_,_,_,_,_,h,_=>by omega
 | _,0,_,_,_,_,_,h=>by omega
 | n+1,m+1,acc,s,t,he,hn,hm=>by
  unfold s9;rw[←he];cases hb:blk false s with
  | nil=>rfl
  | cons c r =>
   simp only;rw[hb] at hn hm;simp only[zt] at hn hm;cases hp:A0k c r with
   | error e=>rfl
   | ok p =>
    simp only;obtain⟨k,u⟩:=p;have h1:=A5o hp;have h2:=A34 false u;rw[A6l n m (acc++[k]) u u rfl o_ o_]
end Go.Am
