/- Parts of the proof: an abstract machine for Go functions, and what functions of the program give back (Ch5, Ch6, Ch7, Ch8, Lb1, Lz0, Lb2, Lb4, Ln1, Lx1, Lx2, Lx3). No condition. -/
import Derived.Test.YtphjabjjnncebaaGreatDoorXO
import Derived.Test.YtphjabjjnncebaaGreatDoorXI
import Derived.Test.YtphjabjjnncebaaGreatDoorXJ
import Derived.Test.YtphjabjjnncebaaGreatDoorProg
import Derived.Shelf.Strconv.Itoa3
import Derived.Shelf.Strings.OnBuilder
import Derived.KernelRfl
import Derived.Test.YtphjabjjnncebaaGreatDoorXH
import Derived.Test.YtphjabjjnncebaaGreatDoorXM
import Derived.Test.YtphjabjjnncebaaGreatDoorXF
import Derived.Shelf.Strconv.AtoiAll
import Derived.Lib.AtoiAll
set_option maxRecDepth 100000
set_option linter.all false
set_option maxHeartbeats 4000000
namespace Go.Am
open Go Go.Proofs Go.RowKit
theorem B4g{l:List Ty}{i:Int}{t:Ty}(h:l[i.toNat]?=some t):C8 l i=t.fields:=by unfold C8; rw[h]; rfl
theorem C2I{l:List Ty}{s:F6}(h:¬tyI l s<0):∃(k:Nat) (t:Ty),tyI l s=k/\k<l.length/\l[k]?=some t:=by
 unfold tyI C3 at *;rcases R9 (fun t:Ty=>t.name==(V2 s.args A1d).text) l 0 with⟨_,h2⟩|⟨k,x,h1,h2,_⟩
 ·rw[h2] at h; exact (h (by decide)).elim
 ·exact⟨k,x,by rw[h2]; simp,(ze.1 h1).1,h1⟩
theorem A5B{l:List Ty}{s:F6}{w:Int}(h:mkE l s=w)(hw:w≠0):K7 (evX l s) = .agg [.int .i64 0,.int .i64 0,.int .i64 0,.int .i64 0,.int .i64 0,.str []]:=by unfold evX; rw[zf (by rw[h]; exact hw)]; rfl
theorem B9y(l:List Ty)(s:F6)(J:Nat)(id:Nat)(hA:x8 s.args=0)(hl8:l.length<=1000)(hf8:∀t∈l,t.fields.length<=1000):A2 Tryz.prog 161 [.ptr J 0 0] [(J,⟨[eMk l s],eMk l s,false,false⟩)] id (.tup [K7 (evX l s),.int .i64 (mkE l s)]) []:=by
 have ha8:s.args.length<9223372036854775807:=by have:=(B01 hA).1; omega
 have hF:=fun n id=>A59 l s J n id ha8;have hmk:mkE l s=if s.kids≠[] then 4 else if X0 s=0 then 5 else if A0f s.args (T9 (X0 s))≠0 then A0f s.args (T9 (X0 s)) else if tyI l s<0 then 5 else if 2<X0 s/\fdI l s<0 then 5 else 0:=rfl
 have hFt:=fun id=>j8 l (V2 s.args A1d).text id (by omega);rw[show B8 (fun x:Ty=>x.name==(V2 s.args A1d).text) l 0=tyI l s from rfl] at hFt;have hFT:=hF A1d;have hFI:=hF nId;have hFF:=hF A08;have hF0:=hF W8;have hF1:=hF nTo;have hF2:=hF W7;have hb:=B1B hA;have hs0:=C2H hA 0;have hs1:=C2H hA 1;have hs2:=C2H hA 2;have hb0:=hb W8;have hb1:=hb nTo;have hb2:=hb W7;have hxe:∀w,mkE l s=w->w=0->(X0 s≠0->A0f s.args (T9 (X0 s))=0->K7 (evX l s) = .agg [.int .i64 (X0 s),.int .i64 (tyI l s),.int .i64 (V2 s.args nId).n,.int .i64 (if 2<X0 s then fdI l s else 0),.int .i64 (sN s.args 3),.str (sT s.args 3)]):=fun w h1 h2 h3 h4=>by
  obtain⟨g1,g2⟩:=s3 h3 h4;unfold evX; rw[zj (h1.trans h2),g1,g2]; rfl
 have st1:sN s.args 1=sN s.args 0+(V2 s.args W8).n/\sT s.args 1=sT s.args 0++(V2 s.args W8).text:=⟨rfl,rfl⟩;have st2:sN s.args 2=sN s.args 1+(V2 s.args nTo).n/\sT s.args 2=sT s.args 1++(V2 s.args nTo).text:=⟨rfl,rfl⟩;have st3:sN s.args 3=sN s.args 2+(V2 s.args W7).n/\sT s.args 3=sT s.args 2++(V2 s.args W7).text:=⟨rfl,rfl⟩;generalize hT:V2 s.args A1d=aT at *;generalize hI:V2 s.args nId=aI at *;generalize hFd:V2 s.args A08=aF at *;generalize hn0:V2 s.args W8=a0 at *;generalize hn1:V2 s.args nTo=a1 at *;generalize hn2:V2 s.args W7=a2 at *;unfold A1d at hFT;unfold nId at hFI;unfold A08 at hFF;unfold W8 at hF0;unfold nTo at hF1;unfold W7 at hF2;simp only[U5 aT] at hFT;simp only[U5 aI] at hFI;simp only[U5 aF] at hFF;simp only[U5 a0] at hF0;simp only[U5 a1] at hF1;simp only[U5 a2] at hF2;have hNm:=fun id=>B9u l s J id ha8;have hKd:=fun id hk=>C2G l s J id ha8 hk;have hG:=fun id=>B9v l s (T9 (X0 s)) J id ha8 (by rw[A1e]; unfold B04; split<;>simp);rw[A1e,ym,ym,←A1e] at hG;unfold eMk at *;refine w161.e.1 fun E hP hR hl hid=>?_;simp[w161];have hJ:=hl (J,_) (za ..);simp only at hJ;have J1:=lf hJ;(refine yC rfl (hNm _) ?_; simp[J1]);refine E5 (fun h0=>?_) (fun h0=>?_)
 ·have h0:s.kids≠[]:=by intro e; rw[e] at h0; simp at h0
  rw[zj h0] at hmk;rw[hmk,A5B hmk (by decide)] at hR;simp[J1];refine yE hR [] (by simp[J1,A4 hid]) fun hrn=>⟨?_,?_,?_,?_,?_,?_⟩<;>(try simp[J1,A4 hid])
 have h0:¬s.kids≠[]:=by
  intro e;have:=xw.2 e;simp at h0;exact e h0
 rw[zf h0] at hmk;by_cases hk:X0 s=0
 ·rw[zj hk] at hmk;rw[hmk,A5B hmk (by decide)] at hR;rw[hk,show A8J 0 = .nils from rfl];simp[J1];refine yE hR [] (by simp[J1,A4 hid]) fun hrn=>⟨?_,?_,?_,?_,?_,?_⟩<;>(try simp[J1,A4 hid])
 rw[zf hk] at hmk;have hnv:A8J (X0 s) = .sl (.str A1d::.str nId::(B04 (X0 s)).map .str):=by unfold A8J; rw[zf hk,A1e]; rfl
 have hps:∀S,F3 S ((B04 (X0 s)).map AV.str):=fun S=>L9 S _;rw[hnv];generalize (B04 (X0 s)).map AV.str=NR at *;simp[J1];(refine yC rfl (hG _) ?_; simp[J1]);refine E5 (fun h1=>?_) (fun h1=>?_)<;>simp[J1]
 ·have h1:A0f s.args (T9 (X0 s))≠0:=by simpa using h1
  rw[zj h1] at hmk;rw[hmk,A5B hmk h1] at hR;refine yE hR [] (by simp[J1,A4 hid]) fun hrn=>⟨?_,?_,?_,?_,?_,?_⟩<;>(try simp[J1,A4 hid])
 have h1:A0f s.args (T9 (X0 s))=0:=by simpa using h1
 rw[zf (by simpa using h1)] at hmk;have hhf:A2d s.args [102,105,101,108,100]=decide (2<X0 s):=B7S hk h1;rw[hhf] at hFF;(refine yC rfl (hKd _ hk) ?_; simp[J1]);(refine yC rfl (hFT _) ?_; simp[J1]);(refine yC rfl (hFI _) ?_; simp[J1]);(refine yC rfl (hFt _) ?_; simp[J1]);refine E5 (fun h2=>?_) (fun h2=>?_)<;>simp[J1]
 ·rw[zj (by simpa using h2)] at hmk;rw[hmk,A5B hmk (by decide)] at hR;refine yE hR [] (by simp[J1,A4 hid]) fun hrn=>⟨?_,?_,?_,?_,?_,?_⟩<;>(try simp[J1,A4 hid])
 have h2:¬tyI l s<0:=by simpa using h2
 rw[zf h2] at hmk;obtain⟨k,t,hty,hkl,hlk⟩:=C2I h2;have hfl:C8 l (tyI l s)=t.fields:=B4g (by rw[hty]; exact hlk);have hFo:=fun id=>A1F t.fields t.name aF.text id (by have:=hf8 t (zg hlk); omega);rw[show B8 (fun x=>x.name==aF.text) t.fields 0=fdI l s by unfold fdI; rw[hfl,hFd]] at hFo;have hxT:I8 t = .agg [.str t.name,.sl (t.fields.map T2)]:=rfl;refine D8 hP rfl (hFF _) (by simp[J1]) (by simp[J1]<;>rfl) ?_;refine A3 28 ?_;simp[J1];refine A3 6 ?_;simp[J1];refine C2o (X:=Unit) (fun _=>⟨[(0,true,.ptr J 0 0),(2,true,.ptr E.n0 0 0),(6,true,.ptr (E.n0+1) 0 0)],[(J,some ⟨[.agg [.sl (l.map I8),.str s.alias,.str s.name,.sl (s.args.map t7),.sl (s.kids.map E0)]],.agg [.sl (l.map I8),.str s.alias,.str s.name,.sl (s.args.map t7),.sl (s.kids.map E0)],false,false⟩),(E.n0,some ⟨[.agg [.int .i64 0,.int .i64 0,.int .i64 0,.int .i64 0,.int .i64 0,.str []]],.agg [.int .i64 0,.int .i64 0,.int .i64 0,.int .i64 0,.int .i64 0,.str []],false,false⟩),(E.n0+1,some ⟨[.agg [.int .i64 (X0 s),.int .i64 (tyI l s),.int .i64 aI.n,.int .i64 (if 2<X0 s then fdI l s else 0),.int .i64 (0),.str ([])]],.agg [.int .i64 0,.int .i64 0,.int .i64 0,.int .i64 0,.int .i64 0,.str []],false,false⟩)],2⟩) (fun _=>¬(2<X0 s/\fdI l s<0)) (fun p hp=>?_) fun _ h5=>?_
 ·refine A3 4000 ?_;simp;refine E5 (fun h3=>?_) (fun h3=>?_)
  ·have h3:2<X0 s:=(by simpa using h3);rw[hty];simp[J1,hlk,hxT];refine⟨hkl,?_⟩;(refine yC rfl (hFo _) ?_; simp[J1]);refine E5 (fun h4=>?_) (fun h4=>?_)<;>simp[J1]
   ·rw[zj ⟨h3,by simpa using h4⟩] at hmk;rw[hmk,A5B hmk (by decide)] at hR;refine yE hR [] (by simp[J1,A4 hid]) fun hrn=>⟨?_,?_,?_,?_,?_,?_⟩<;>(try simp[J1,A4 hid])
   ·refine hp _ () (fun g=>by simp at h4; omega) ?_;refine yV [(E.n0,E.n0),(E.n0+1,E.n0+23552)] (by simp[J1,h3,hty]) fun hrn=>⟨?_,?_,?_,?_,?_⟩<;>(try simp[J1,h3,hty])
  ·have h3:¬2<X0 s:=(by simpa using h3);simp[J1];refine hp _ () (fun g=>h3 g.1) ?_;refine yV [(E.n0,E.n0),(E.n0+1,E.n0+23552)] (by simp[J1,h3,hty]) fun hrn=>⟨?_,?_,?_,?_,?_⟩<;>(try simp[J1,h3,hty])
 ·rw[zf h5] at hmk;have hxx:=hxe _ hmk rfl hk h1;rw[hmk,hxx] at hR;refine A3 4000 ?_;simp[J1];refine D0 (X:=Nat) (fun i=>⟨[(0,true,.ptr J 0 0),(2,true,.ptr E.n0 0 0),(6,true,.ptr (E.n0+1) 0 0),(87,true,.bsl (E.n0+2) 0 3),(88,true,.int .i64 3),(89,true,.int .i64 i)],[(J,some ⟨[.agg [.sl (l.map I8),.str s.alias,.str s.name,.sl (s.args.map t7),.sl (s.kids.map E0)]],.agg [.sl (l.map I8),.str s.alias,.str s.name,.sl (s.args.map t7),.sl (s.kids.map E0)],false,false⟩),(E.n0,some ⟨[.agg [.int .i64 0,.int .i64 0,.int .i64 0,.int .i64 0,.int .i64 0,.str []]],.agg [.int .i64 0,.int .i64 0,.int .i64 0,.int .i64 0,.int .i64 0,.str []],false,false⟩),(E.n0+1,some ⟨[.agg [.int .i64 (X0 s),.int .i64 (tyI l s),.int .i64 aI.n,.int .i64 (if 2<X0 s then fdI l s else 0),.int .i64 (sN s.args i),.str (sT s.args i)]],.agg [.int .i64 0,.int .i64 0,.int .i64 0,.int .i64 0,.int .i64 0,.str []],false,false⟩),(E.n0+2,some ⟨[.str [110,117,109,98,101,114],.str [116,111],.str [116,101,120,116]],.str [],false,false⟩)],3⟩) (fun i=>i<=3) (fun i=>3 - i) 0 ?_ (by omega) ?_
  ·refine yV [(E.n0,E.n0),(E.n0+1,E.n0+1),(E.n0+2,E.n0+2)] (by simp[J1,sN,sT]) fun hrn=>⟨?_,?_,?_,?_,?_⟩<;>(try simp[J1,sN,sT])
  ·rintro i hi p hp;have hc:i=0\/i=1\/i=2\/i=3:=(by omega);refine A3 4000 ?_;rcases hc with rfl|rfl|rfl|rfl
   ·have hw:IntKind.i64.wrap (sN s.args 0+a0.n)=sN s.args 1:=(by rw[st1.1]; exact A5 (by omega));simp[J1];(refine yC rfl (hF0 _) ?_; simp[J1]);refine⟨by omega,?_⟩;simp[J1,hw,←st1.2];refine hp _ 1 (by omega) (by omega) ?_;refine yV [(E.n0,E.n0),(E.n0+1,E.n0+1),(E.n0+2,E.n0+2)] (by simp[J1,L9]) fun hrn=>⟨?_,?_,?_,?_,?_⟩<;>(try simp[J1,L9]);rfl
   ·have hw:IntKind.i64.wrap (sN s.args 1+a1.n)=sN s.args 2:=(by rw[st2.1]; exact A5 (by omega));simp[J1];(refine yC rfl (hF1 _) ?_; simp[J1]);refine⟨by omega,?_⟩;simp[J1,hw,←st2.2];refine hp _ 2 (by omega) (by omega) ?_;refine yV [(E.n0,E.n0),(E.n0+1,E.n0+1),(E.n0+2,E.n0+2)] (by simp[J1,L9]) fun hrn=>⟨?_,?_,?_,?_,?_⟩<;>(try simp[J1,L9]);rfl
   ·have hw:IntKind.i64.wrap (sN s.args 2+a2.n)=sN s.args 3:=(by rw[st3.1]; exact A5 (by omega));simp[J1];(refine yC rfl (hF2 _) ?_; simp[J1]);refine⟨by omega,?_⟩;simp[J1,hw,←st3.2];refine hp _ 3 (by omega) (by omega) ?_;refine yV [(E.n0,E.n0),(E.n0+1,E.n0+1),(E.n0+2,E.n0+2)] (by simp[J1,L9]) fun hrn=>⟨?_,?_,?_,?_,?_⟩<;>(try simp[J1,L9]);rfl
   ·simp[J1];refine yE hR [] (by simp[J1,A4 hid]) fun hrn=>⟨?_,?_,?_,?_,?_,?_⟩<;>(try simp[J1,A4 hid])
def ofE(l:List Ty)(q:List F6):Int:=if R7 (mkE l) q≠0 then R7 (mkE l) q else if 8<q.length then 2 else 0
def J0(l:List Ty)(q:List F6):List Ev:=q.map (mkX l)
def evV(w:Int)(ev:List Ev):AV:=if w=0 then .sl (ev.map K7) else .nils
theorem C3x{l:List Ty}{s:F6}(h:mkE l s=0):evX l s=mkX l s:=by unfold evX; rw[zj h]
theorem C5L(l:List Ty)(q:List F6)(id:Nat)(hA:∀s∈q,x8 s.args=0)(hl8:l.length<=1000)(hf8:∀t∈l,t.fields.length<=1000)(hq8:q.length<=1000000):A2 Tryz.prog 95 [.sl (l.map I8),.sl (q.map E0)] [] id (.tup [evV (ofE l q) (J0 l q),.int .i64 (ofE l q)]) []:=by
 have hE:=fun s (hs:s∈q) J id=>B9y l s J id (hA s hs) hl8 hf8;unfold eMk at hE;refine w95.e.1 fun E hP hR hl hid=>?_;simp[w95];refine D0 (X:=Nat) (fun i=>⟨[(0,true,.sl (l.map I8)),(6,true,.bsl E.n0 0 i),(12,true,.sl (q.map E0)),(13,true,.int .i64 q.length),(14,true,.int .i64 i)],[(E.n0,some ⟨((J0 l q).take i).map K7,.agg [.int .i64 0,.int .i64 0,.int .i64 0,.int .i64 0,.int .i64 0,.str []],false,false⟩)],1⟩)
  (fun i=>i<=q.length/\R7 (mkE l) (q.drop i)=R7 (mkE l) q) (fun i=>q.length - i) 0 ?_ ⟨by simp,rfl⟩ ?_
 ·refine E4.trans (E4.voidSlot 6 (x:=.nils) (y:=.bsl (E.n0+6144) 0 0) (by simp) .nils (.agg [.int .i64 0,.int .i64 0,.int .i64 0,.int .i64 0,.int .i64 0,.str []])) ?_;refine yV [(E.n0,E.n0+6144)] (by simp) fun hrn=>⟨?_,?_,?_,?_,?_⟩<;>(try simp)
 ·rintro i ⟨hi,hf⟩ p hp;refine A3 4000 ?_;simp;refine E5 (fun h=>?_) (fun h=>?_)
  ·have h:=zr h;obtain⟨x,hx,hd⟩:=B2 h;have hi1:IntKind.i64.wrap ((i:Int)+1)=((i+1:Nat):Int):=A5 (by omega);have hxm:=zg hx;rw[hd] at hf;simp only[R7] at hf;simp[hx,H8 x];refine⟨h,?_⟩;have hEx:=hE x hxm;have hxe:mkE l x=0->evX l x=mkX l x:=C3x;generalize evX l x=e at *;simp only[show K7 e = .agg [.int .i64 e.kind,.int .i64 e.type,.int .i64 e.id,.int .i64 e.field,.int .i64 e.n,.str e.text] from rfl] at hEx;(refine yH rfl (hEx (E.n0+8193) _) ?_; simp);refine E5 (fun h1=>?_) (fun h1=>?_)<;>simp
   ·have h1:mkE l x≠0:=(by simpa using h1);rw[zj h1] at hf;have hv:ofE l q=mkE l x:=(by unfold ofE; rw[←hf,zj h1]);have hw:evV (mkE l x) (J0 l q) = .nils:=(by unfold evV; rw[zf h1]);rw[hv,hw] at hR;exact yP hR
   ·have h1:mkE l x=0:=(by simpa using h1);rw[zf (by simpa using h1)] at hf;have he:=hxe h1;have hxs:((J0 l q).map K7)[i]?=some (K7 (mkX l x)):=(by unfold J0; simp[hx]);have hts:=O2 hxs;rw[←he] at hts;refine⟨⟨by simp[J0]; omega,by omega,by omega⟩,?_⟩;refine hp _ (i+1) ⟨h,hf⟩ (by omega) ?_;refine yV [(E.n0,E.n0+23553)] (by simp[hi1]) fun hrn=>⟨?_,?_,?_,?_,?_⟩<;>(try simp[hi1]);exact C2 hts.symm (by rw[←yu,←yu] at hts; rw[←yu]; exact C4 (A3A _) rfl)
  ·have h:=zp h;have hiq:i=q.length:=(by omega);have htk:((J0 l q).map K7).take i=(J0 l q).map K7:=zq (by simp[J0]; omega);simp;rw[zn (by omega)] at hf;have hf:R7 (mkE l) q=0:=hf.symm;refine E5 (fun h1=>?_) (fun h1=>?_)<;>simp
   ·have hv:ofE l q=2:=(by unfold ofE; rw[zf (by simpa using hf),zj (by simp at h1; omega)]);rw[hv,show evV 2 (J0 l q) = .nils from rfl] at hR;exact yP hR
   ·have hv:ofE l q=0:=(by unfold ofE; rw[zf (by simpa using hf),zf (by simp at h1; omega)]);rw[hv,show evV 0 (J0 l q) = .sl ((J0 l q).map K7) from rfl] at hR;have hln:(J0 l q).length=q.length:=(by simp[J0]);subst hiq;have hrn:H5 []:=(by simp[htk,hln,A4 hid]);rw[hR];refine L6 (by simp<;>rfl) (by simp[htk,hln,A4 hid]<;>exact⟨rfl,rfl⟩) [] hrn ⟨?_,?_,?_,?_,?_,?_⟩<;>(try simp[htk,hln,A4 hid])
theorem A8K:∀(q ah:List F6),x9 q ah=0->∀s∈q,x8 s.args=0
 | [],_,_,s,hs=>by cases hs
 | x::r,ah,h,s,hs=>by
  simp only[x9] at h;split at h
  ·rename_i g; exact (g h).elim
  ·rename_i g;split at h
   ·rename_i g2; exact (g2 h).elim
   ·rcases zh.1 hs with rfl|hs
    ·have g:A81 s ah=0:=zl g;unfold A81 at g;repeat' split at g
     all_goals first|omega|(rename_i a; exact zl a)
    ·exact A8K r _ h s hs
theorem A2j{q:List F6}(h:V8 q=0):q≠[]/\q.length<=40/\x9 q []=0/\∀s∈q,x8 s.args=0:=by
 unfold V8 at h;split at h
 ·omega
 ·rename_i g;split at h
  ·omega
  ·rename_i g2;have:q.length<=o9 5 q:=by simp[o9]
   exact⟨g,by omega,h,A8K q [] h⟩
theorem B7T{s:H0}(h:fSt s=0):J2 s.types=0:=by
 unfold fSt at h;split at h
 ·rename_i g; exact (g h).elim
 ·rename_i g; exact zl g
def rdE(s:H0)(q:List F6):Int:=if fSt s≠0 then fSt s else V8 q
def cvE(s:H0)(q:List F6):Int:=if rdE s q≠0 then rdE s q else ofE s.types q
theorem A5C{s:H0}{q:List F6}(h:rdE s q=0):fSt s=0/\V8 q=0:=by
 unfold rdE at h;split at h
 ·rename_i g; exact (g h).elim
 ·rename_i g; exact⟨zl g,h⟩
theorem A73{w:Int}(h:w≠0)(ev:List Ev):evV w ev = .nils:=by unfold evV; rw[zf h]
theorem C5M{s:H0}{q:List F6}(h:rdE s q=0)(id:Nat):A2 Tryz.prog 95 [.sl (s.types.map I8),.sl (q.map E0)] [] id (.tup [evV (ofE s.types q) (J0 s.types q),.int .i64 (ofE s.types q)]) []:=by
 have hS:=A6P (B7T (A5C h).1);have hq:=A2j (A5C h).2;exact C5L s.types q id hq.2.2.2 (by have:=hS.len; omega) (fun t ht=>by have:=hS.fields t ht; omega) (by omega)
@[simp] theorem C5N (w:Int) (ev:List Ev):(evV w ev).pureB=true:=by
 unfold evV;split
 ·exact A3A _
 ·rfl
theorem B7U(s:H0)(q:List F6)(id:Nat)(hq8:szL q<=1099511627776):A2 Tryz.prog 36 [D7 s,.sl (q.map E0)] [] id (.tup [evV (cvE s q) (J0 s.types q),.int .i64 (cvE s q)]) []:=by
 have hS:=fun id=>m3 s id;have hQ:=fun id=>A9j q id hq8;have hO:=fun h id=>C5M (s:=s) (q:=q) h id;unfold D7 at *;have hrd:rdE s q=if fSt s≠0 then fSt s else V8 q:=rfl
 have hch:cvE s q=if rdE s q≠0 then rdE s q else ofE s.types q:=rfl
 have bad:rdE s q≠0->∀w,rdE s q=w->cvE s q=w/\evV (cvE s q) (J0 s.types q) = .nils:=fun h w hw=>by
  rw[zj h] at hch;exact⟨hch.trans hw,A73 (by rw[hch]; exact h) _⟩
 refine w36.e.1 fun E hP hR hl hid=>?_;simp[w36];(refine yH rfl (hS _) ?_; simp);refine E5 (fun h1=>?_) (fun h1=>?_)<;>simp
 ·have h1:fSt s=0:=by simpa using h1
  rw[zf (by simpa using h1)] at hrd;(refine yH rfl (hQ _) ?_; simp);refine E5 (fun h2=>?_) (fun h2=>?_)<;>simp
  ·have h2:V8 q≠0:=(by simpa using h2);obtain⟨e1,e2⟩:=bad (by rw[hrd]; exact h2) _ hrd;rw[e2,e1] at hR;exact yP hR
  ·have h2:V8 q=0:=(by simpa using h2);have h3:rdE s q=0:=hrd.trans h2;rw[zf (by simpa using h3)] at hch;rw[hch] at hR;(refine yH rfl (hO h3 _) ?_; simp);exact yP hR
 ·have h1:fSt s≠0:=by simpa using h1
  rw[zj h1] at hrd;obtain⟨e1,e2⟩:=bad (by rw[hrd]; exact h1) _ hrd;rw[e2,e1] at hR;refine A9 (by simpa using h1) ?_;simp;exact yP hR
theorem C2J{s:H0}{q:List F6}(h:rdE s q=0):∀e∈J0 s.types q,I64 e.n:=fun e he=>by
 obtain⟨x,hx,rfl⟩:=zu.1 he;have hA:=(A2j (A5C h).2).2.2.2 x hx;simp only[mkX,B7R,I64];split
 ·have:=B1B hA (B1A (X0 x)); omega
 ·simp[ag0]
theorem B9z{l:List Ty}{q:List F6}(h:ofE l q=0):R7 (mkE l) q=0/\q.length<=8:=by
 unfold ofE at h;split at h
 ·rename_i g; exact (g h).elim
 ·rename_i g;split at h
  ·omega
  ·exact⟨zl g,by omega⟩
theorem B30{s:H0}{q:List F6}(h:cvE s q=0):rdE s q=0/\ofE s.types q=0:=by
 unfold cvE at h;split at h
 ·rename_i g; exact (g h).elim
 ·rename_i g; exact⟨zl g,h⟩
theorem C3y{s:H0}{q:List F6}(h:cvE s q=0):A5y s (J0 s.types q)=0:=by
 obtain⟨h1,h2⟩:=B30 h;have:=(B9z h2).2;unfold A5y;rw[zf (by simpa using (A5C h1).1),zf (by simp[J0]; omega)]
def cdE(s:H0)(q:List F6):Int:=if cvE s q≠0 then cvE s q else U7 s (J0 s.types q)
theorem C00{s:H0}{q:List F6}(h:cdE s q=0):cvE s q=0/\U7 s (J0 s.types q)=0:=by
 unfold cdE at h;split at h
 ·rename_i g; exact (g h).elim
 ·rename_i g; exact⟨zl g,h⟩
theorem B05{w:Int}(h:w≠0)(s:H0):A1H w s = .agg [.nils,.nils]:=by rw[A0C,zf h]; rfl
theorem C3z(s:H0)(q:List F6)(id:Nat)(hI:B4W s)(hq8:szL q<=1099511627776):A2 Tryz.prog 17 [D7 s,.sl (q.map E0)] [] id (.tup [A1H (cdE s q) (r8 s (J0 s.types q)),evV (cdE s q) (J0 s.types q),.int .i64 (cdE s q)]) []:=by
 have hV:=fun id=>B7U s q id hq8;have hcd:cdE s q=if cvE s q≠0 then cvE s q else U7 s (J0 s.types q):=rfl
 by_cases h0:cvE s q=0
 ·rw[zf (by simpa using h0)] at hcd;rw[hcd];have hG:=fun id=>B9q s (J0 s.types q) id hI (C2J (B30 h0).1);have hg:A8y s (J0 s.types q)=U7 s (J0 s.types q):=by unfold A8y; rw[zf (by simpa using C3y h0)]
  rw[h0,show evV 0 (J0 s.types q) = .sl ((J0 s.types q).map K7) from rfl] at hV;rw[hg] at hG;by_cases h1:U7 s (J0 s.types q)=0
  ·rw[h1] at hG ⊢;rw[show evV 0 (J0 s.types q) = .sl ((J0 s.types q).map K7) from rfl,A0C,zj rfl] at *;unfold D7 at *;refine w17.e.1 fun E hP hR hl hid=>?_;simp[w17];(refine yH rfl (hV _) ?_; simp);(refine yH rfl (hG _) ?_; simp);exact yP hR
  ·rw[A73 h1];rw[B05 h1] at hG ⊢;unfold D7 at *;refine w17.e.1 fun E hP hR hl hid=>?_;simp[w17];(refine yH rfl (hV _) ?_; simp);(refine yH rfl (hG _) ?_; simp);refine A9 (by simpa using h1) ?_;simp;exact yP hR
 ·rw[zj h0] at hcd;rw[hcd,B05 h0,A73 h0];rw[A73 h0] at hV;unfold D7 at *;refine w17.e.1 fun E hP hR hl hid=>?_;simp[w17];(refine yH rfl (hV _) ?_; simp);refine A9 (by simpa using h0) ?_;simp;exact yP hR
end Go.Am
namespace Go.Am
open Go Go.Proofs Go.Shelf
def B31:Go.Shelf.Ren:=⟨fun|171=>123|243=>190|246=>257|283=>288|284=>289|285=>290|286=>291|129=>310|317=>309|318=>311|319=>312|320=>313|337=>330|338=>331|n=>n,fun|3=>3|9=>9|2=>2|4=>4|171=>329|0=>0|53=>330|37=>238|5=>5|173=>333|212=>350|51=>309|20=>20|213=>351|46=>239|232=>399|233=>400|n=>n,fun|17=>0|18=>4|19=>5|n=>n⟩
theorem C2K:Go.Proofs.LaysM.n171 Tryz.prog B31:={ mixed:=by kernel_rfl,f129:=Tryz.func310.trans (congrArg some (by kernel_rfl)),f171:=Tryz.func123.trans (congrArg some (by kernel_rfl)),f243:=Tryz.func190.trans (congrArg some (by kernel_rfl)),f246:=Tryz.func257.trans (congrArg some (by kernel_rfl)),f283:=Tryz.func288.trans (congrArg some (by kernel_rfl)),f284:=Tryz.func289.trans (congrArg some (by kernel_rfl)),f285:=Tryz.func290.trans (congrArg some (by kernel_rfl)),f286:=Tryz.func291.trans (congrArg some (by kernel_rfl)),f317:=Tryz.func309.trans (congrArg some (by kernel_rfl)),f318:=Tryz.func311.trans (congrArg some (by kernel_rfl)),f319:=Tryz.func312.trans (congrArg some (by kernel_rfl)),f320:=Tryz.func313.trans (congrArg some (by kernel_rfl)),f337:=Tryz.func330.trans (congrArg some (by kernel_rfl)),f338:=Tryz.func331.trans (congrArg some (by kernel_rfl)),t0:=Tryz.underlying0,a0:=Tryz.isAgg0,z0:=Tryz.sizeOf0,v0:=Tryz.zeroValue0,t2:=Tryz.underlying2,a2:=Tryz.isAgg2,z2:=Tryz.sizeOf2,v2:=Tryz.zeroValue2,t3:=Tryz.underlying3,a3:=Tryz.isAgg3,z3:=Tryz.sizeOf3,v3:=Tryz.zeroValue3,t4:=Tryz.underlying4,a4:=Tryz.isAgg4,z4:=Tryz.sizeOf4,v4:=Tryz.zeroValue4,t5:=Tryz.underlying5,a5:=Tryz.isAgg5,z5:=Tryz.sizeOf5,v5:=Tryz.zeroValue5,t9:=Tryz.underlying9,a9:=Tryz.isAgg9,z9:=Tryz.sizeOf9,v9:=Tryz.zeroValue9,t20:=Tryz.underlying20,a20:=Tryz.isAgg20,z20:=Tryz.sizeOf20,v20:=Tryz.zeroValue20,t37:=Tryz.underlying238,a37:=Tryz.isAgg238,z37:=Tryz.sizeOf238,v37:=Tryz.zeroValue238,t46:=Tryz.underlying239,a46:=Tryz.isAgg239,z46:=Tryz.sizeOf239,v46:=Tryz.zeroValue239,t51:=Tryz.underlying309,a51:=Tryz.isAgg309,z51:=Tryz.sizeOf309,v51:=Tryz.zeroValue309,t53:=Tryz.underlying330,a53:=Tryz.isAgg330,z53:=Tryz.sizeOf330,v53:=Tryz.zeroValue330,t171:=Tryz.underlying329,a171:=Tryz.isAgg329,z171:=Tryz.sizeOf329,v171:=Tryz.zeroValue329,t173:=Tryz.underlying333,a173:=Tryz.isAgg333,z173:=Tryz.sizeOf333,v173:=Tryz.zeroValue333,t212:=Tryz.underlying350,a212:=Tryz.isAgg350,z212:=Tryz.sizeOf350,v212:=Tryz.zeroValue350,t213:=Tryz.underlying351,a213:=Tryz.isAgg351,z213:=Tryz.sizeOf351,t232:=Tryz.underlying399,a232:=Tryz.isAgg399,z232:=Tryz.sizeOf399,v232:=Tryz.zeroValue399,t233:=Tryz.underlying400,a233:=Tryz.isAgg400,z233:=Tryz.sizeOf400,v233:=Tryz.zeroValue400,g17:=by kernel_rfl,g18:=by kernel_rfl,g19:=by kernel_rfl,i0:=by kernel_rfl,i2:=by kernel_rfl,i3:=by kernel_rfl,i4:=by kernel_rfl,i5:=by kernel_rfl,i9:=by kernel_rfl,i20:=by kernel_rfl,i37:=by kernel_rfl,i46:=by kernel_rfl,i51:=by kernel_rfl,i53:=by kernel_rfl,i171:=by kernel_rfl,i173:=by kernel_rfl,i212:=by kernel_rfl,i232:=by kernel_rfl,i233:=by kernel_rfl,m17:=by kernel_rfl,m18:=by kernel_rfl,m19:=by kernel_rfl }
def A6U:Go.Shelf.Ren:=⟨fun|156=>125|165=>191|166=>192|169=>193|240=>258|241=>259|276=>292|277=>293|n=>n,fun|31=>23|9=>9|3=>3|4=>4|0=>0|20=>20|72=>242|76=>245|70=>240|37=>238|75=>244|127=>293|164=>335|5=>5|80=>228|n=>n,fun|n=>n⟩
theorem B5k:Go.Proofs.Lays.n156 Tryz.prog A6U:={ mixed:=by kernel_rfl,f156:=Tryz.func125.trans (congrArg some (by kernel_rfl)),f165:=Tryz.func191.trans (congrArg some (by kernel_rfl)),f166:=Tryz.func192.trans (congrArg some (by kernel_rfl)),f169:=Tryz.func193.trans (congrArg some (by kernel_rfl)),f240:=Tryz.func258.trans (congrArg some (by kernel_rfl)),f241:=Tryz.func259.trans (congrArg some (by kernel_rfl)),f276:=Tryz.func292.trans (congrArg some (by kernel_rfl)),f277:=Tryz.func293.trans (congrArg some (by kernel_rfl)),t0:=Tryz.underlying0,a0:=Tryz.isAgg0,z0:=Tryz.sizeOf0,v0:=Tryz.zeroValue0,t3:=Tryz.underlying3,a3:=Tryz.isAgg3,z3:=Tryz.sizeOf3,v3:=Tryz.zeroValue3,t4:=Tryz.underlying4,a4:=Tryz.isAgg4,z4:=Tryz.sizeOf4,v4:=Tryz.zeroValue4,t9:=Tryz.underlying9,a9:=Tryz.isAgg9,z9:=Tryz.sizeOf9,v9:=Tryz.zeroValue9,t20:=Tryz.underlying20,a20:=Tryz.isAgg20,z20:=Tryz.sizeOf20,v20:=Tryz.zeroValue20,t31:=Tryz.underlying23,a31:=Tryz.isAgg23,z31:=Tryz.sizeOf23,v31:=Tryz.zeroValue23,t37:=Tryz.underlying238,a37:=Tryz.isAgg238,z37:=Tryz.sizeOf238,v37:=Tryz.zeroValue238,t70:=Tryz.underlying240,a70:=Tryz.isAgg240,z70:=Tryz.sizeOf240,v70:=Tryz.zeroValue240,t72:=Tryz.underlying242,a72:=Tryz.isAgg242,z72:=Tryz.sizeOf242,v72:=Tryz.zeroValue242,t75:=Tryz.underlying244,a75:=Tryz.isAgg244,z75:=Tryz.sizeOf244,v75:=Tryz.zeroValue244,t76:=Tryz.underlying245,a76:=Tryz.isAgg245,z76:=Tryz.sizeOf245,v76:=Tryz.zeroValue245,t127:=Tryz.underlying293,a127:=Tryz.isAgg293,z127:=Tryz.sizeOf293,v127:=Tryz.zeroValue293,t164:=Tryz.underlying335,a164:=Tryz.isAgg335,z164:=Tryz.sizeOf335,v164:=Tryz.zeroValue335 }
theorem B06:Builder.Extra Tryz.prog A6U:={ sizeBuilder:=by kernel_rfl,liesBuilder:=by kernel_rfl,t5:=Tryz.underlying5,a5:=Tryz.isAgg5,z5:=Tryz.sizeOf5,v5:=Tryz.zeroValue5,infoByte:=by kernel_rfl,cellsByte:=by kernel_rfl,sizeByte:=by kernel_rfl,neB5:=by decide }
end Go.Am
namespace Go.Am
end Go.Am
namespace Go.Am
open Go Go.Proofs Go.RowKit Go.Shelf
theorem C01 : (Tryz.f123.name == "runtime.NumGoroutine") = false := by decide
theorem C02:Tryz.f123.body.isNone=false:=rfl
theorem C03 : (Tryz.f125.name == "runtime.NumGoroutine") = false := by decide
theorem C04:Tryz.f125.body.isNone=false:=rfl
theorem B4h:Z8 Tryz.prog 123:=⟨_,Tryz.func123,C01,C02⟩
theorem B4i:Z8 Tryz.prog 125:=⟨_,Tryz.func125,C03,C04⟩
theorem B32 : (Tryz.prog.globalNamed "internal/strconv.uint64pow10").isSome = true := by kernel_rfl
theorem C05 {w : World} (h : A6W Tryz.prog w) : Lib.TabIs Tryz.prog w "internal/strconv.uint64pow10" .u64 Lib.pow10Tab := by
 obtain⟨g,hg⟩:=vn.1 B32;exact h.tab ("internal/strconv.uint64pow10", .u64, Lib.pow10Tab) (by simp [C39]) g hg
theorem B4j{w:World}(k:Nat)(os:Array Obj):Below w.heap.size w (Sort.grow (w.drewN k) os) :=
 ⟨rfl,rfl,rfl,by simp[Sort.grow,World.drewN],fun i hi=>by
  show ((w.drewN k).heap++os)[i]?=_;rw[xv (by show i<w.heap.size; exact hi)];rfl⟩
theorem A2k(n:Int)(id:Nat)(h:I64 n):A2 Tryz.prog 123 [.int .i64 n] [] id (.str (Lib.itoa n)) []:=by
 refine A5Y B4h fun C G bx w vs hs hv=>?_;obtain⟨v,rfl,hv1⟩:=A1R hv;cases hv1
 refine (Any.strconv_Itoa C2K n (by unfold I64 at h; omega) (by unfold I64 at h; omega) w (C05 hs.tabs)).mono ?_;rintro e w' ⟨h1,k,os,rfl⟩;exact⟨_,h1,fun _ _=>.str _,B4j k os⟩
theorem B5l(xs:List (List UInt8))(sep:List UInt8)(id:Nat)(hN:xs.length<=140737488355328)(hlen:(Lib.join xs sep).length<=140737488355328):
  A2 Tryz.prog 125 [.sl (xs.map .str),.str sep] [] id (.str (Lib.join xs sep)) []:=by
 refine A5Y B4i fun C G bx w vs hs hv=>?_;obtain⟨u,v,rfl,hv1,hv2⟩:=A6I hv;cases hv2
 obtain⟨A,c,rfl,h1,h2,h3⟩:=C1d hs hv1;have hmap:(xs.map fun x=>(⟨⟨x⟩⟩:ByteArray)).map (·.data.toList)=xs:=by simp[Function.comp_def]
 rcases h3 with rfl|⟨b,o,rfl,h4,h5⟩
 ·refine (Any.strings_Join_none B5k B06 A c ⟨⟨sep⟩⟩ w).mono ?_;rintro e w' ⟨q1,rfl⟩;exact⟨_,q1,fun _ _=>.str _,Below.refl _ _⟩
 ·have:=Any.strings_Join B5k B06 b o c (xs.map fun x=>⟨⟨x⟩⟩) ⟨⟨sep⟩⟩ w (fun j x hx=>by
   rw[yi] at hx;cases hj:xs[j]? with
   | none=>rw[hj] at hx; cases hx
   | some y=>rw[hj] at hx; injection hx with hx; subst hx; exact h5 j y hj) h4 (by simpa using hN) (by simpa using h1) (by rw[hmap]; exact hlen)
  rw[hmap] at this;simp only[xg] at this;refine this.mono ?_;rintro e w' ⟨q1,q2⟩;exact⟨_,q1,fun _ _=>.str _,q2⟩
def B33:Go.Shelf.Ren:=⟨fun|172=>280|244=>306|245=>307|247=>324|279=>325|280=>326|281=>327|282=>328|287=>342|316=>343|171=>123|205=>344|321=>355|322=>356|243=>190|246=>257|283=>288|284=>289|285=>290|286=>291|129=>310|317=>309|318=>311|319=>312|320=>313|337=>330|338=>331|n=>n,fun|9=>9|3=>3|75=>244|76=>245|4=>4|5=>5|167=>370|37=>238|0=>0|85=>371|2=>2|168=>373|53=>330|175=>394|46=>239|210=>397|127=>293|145=>414|143=>412|21=>21|171=>329|173=>333|212=>350|51=>309|20=>20|213=>351|232=>399|233=>400|80=>228|n=>n,fun|15=>2|16=>3|17=>0|18=>4|19=>5|n=>n⟩
theorem B1C:Go.Proofs.LaysC.n172 Tryz.prog B33:={ mixed:=by kernel_rfl,f129:=Tryz.func310.trans (congrArg some (by kernel_rfl)),f171:=Tryz.func123.trans (congrArg some (by kernel_rfl)),f172:=Tryz.func280.trans (congrArg some (by kernel_rfl)),f205:=Tryz.func344.trans (congrArg some (by kernel_rfl)),f243:=Tryz.func190.trans (congrArg some (by kernel_rfl)),f244:=Tryz.func306.trans (congrArg some (by kernel_rfl)),f245:=Tryz.func307.trans (congrArg some (by kernel_rfl)),f246:=Tryz.func257.trans (congrArg some (by kernel_rfl)),f247:=Tryz.func324.trans (congrArg some (by kernel_rfl)),f279:=Tryz.func325.trans (congrArg some (by kernel_rfl)),f280:=Tryz.func326.trans (congrArg some (by kernel_rfl)),f281:=Tryz.func327.trans (congrArg some (by kernel_rfl)),f282:=Tryz.func328.trans (congrArg some (by kernel_rfl)),f283:=Tryz.func288.trans (congrArg some (by kernel_rfl)),f284:=Tryz.func289.trans (congrArg some (by kernel_rfl)),f285:=Tryz.func290.trans (congrArg some (by kernel_rfl)),f286:=Tryz.func291.trans (congrArg some (by kernel_rfl)),f287:=Tryz.func342.trans (congrArg some (by kernel_rfl)),f316:=Tryz.func343.trans (congrArg some (by kernel_rfl)),f317:=Tryz.func309.trans (congrArg some (by kernel_rfl)),f318:=Tryz.func311.trans (congrArg some (by kernel_rfl)),f319:=Tryz.func312.trans (congrArg some (by kernel_rfl)),f320:=Tryz.func313.trans (congrArg some (by kernel_rfl)),f321:=Tryz.func355.trans (congrArg some (by kernel_rfl)),f322:=Tryz.func356.trans (congrArg some (by kernel_rfl)),f337:=Tryz.func330.trans (congrArg some (by kernel_rfl)),f338:=Tryz.func331.trans (congrArg some (by kernel_rfl)),t0:=Tryz.underlying0,a0:=Tryz.isAgg0,z0:=Tryz.sizeOf0,v0:=Tryz.zeroValue0,t2:=Tryz.underlying2,a2:=Tryz.isAgg2,z2:=Tryz.sizeOf2,v2:=Tryz.zeroValue2,t3:=Tryz.underlying3,a3:=Tryz.isAgg3,z3:=Tryz.sizeOf3,v3:=Tryz.zeroValue3,t4:=Tryz.underlying4,a4:=Tryz.isAgg4,z4:=Tryz.sizeOf4,v4:=Tryz.zeroValue4,t5:=Tryz.underlying5,a5:=Tryz.isAgg5,z5:=Tryz.sizeOf5,v5:=Tryz.zeroValue5,t9:=Tryz.underlying9,a9:=Tryz.isAgg9,z9:=Tryz.sizeOf9,v9:=Tryz.zeroValue9,t20:=Tryz.underlying20,a20:=Tryz.isAgg20,z20:=Tryz.sizeOf20,v20:=Tryz.zeroValue20,t21:=Tryz.underlying21,a21:=Tryz.isAgg21,z21:=Tryz.sizeOf21,v21:=Tryz.zeroValue21,t37:=Tryz.underlying238,a37:=Tryz.isAgg238,z37:=Tryz.sizeOf238,v37:=Tryz.zeroValue238,t46:=Tryz.underlying239,a46:=Tryz.isAgg239,z46:=Tryz.sizeOf239,v46:=Tryz.zeroValue239,t51:=Tryz.underlying309,a51:=Tryz.isAgg309,z51:=Tryz.sizeOf309,v51:=Tryz.zeroValue309,t53:=Tryz.underlying330,a53:=Tryz.isAgg330,z53:=Tryz.sizeOf330,v53:=Tryz.zeroValue330,t75:=Tryz.underlying244,a75:=Tryz.isAgg244,z75:=Tryz.sizeOf244,v75:=Tryz.zeroValue244,t76:=Tryz.underlying245,a76:=Tryz.isAgg245,z76:=Tryz.sizeOf245,v76:=Tryz.zeroValue245,t85:=Tryz.underlying371,a85:=Tryz.isAgg371,z85:=Tryz.sizeOf371,v85:=Tryz.zeroValue371,t127:=Tryz.underlying293,a127:=Tryz.isAgg293,z127:=Tryz.sizeOf293,v127:=Tryz.zeroValue293,t143:=Tryz.underlying412,a143:=Tryz.isAgg412,z143:=Tryz.sizeOf412,v143:=Tryz.zeroValue412,t145:=Tryz.underlying414,a145:=Tryz.isAgg414,z145:=Tryz.sizeOf414,v145:=Tryz.zeroValue414,t167:=Tryz.underlying370,a167:=Tryz.isAgg370,z167:=Tryz.sizeOf370,v167:=Tryz.zeroValue370,t168:=Tryz.underlying373,a168:=Tryz.isAgg373,z168:=Tryz.sizeOf373,v168:=Tryz.zeroValue373,t171:=Tryz.underlying329,a171:=Tryz.isAgg329,z171:=Tryz.sizeOf329,v171:=Tryz.zeroValue329,t173:=Tryz.underlying333,a173:=Tryz.isAgg333,z173:=Tryz.sizeOf333,v173:=Tryz.zeroValue333,t175:=Tryz.underlying394,a175:=Tryz.isAgg394,z175:=Tryz.sizeOf394,v175:=Tryz.zeroValue394,t210:=Tryz.underlying397,a210:=Tryz.isAgg397,z210:=Tryz.sizeOf397,v210:=Tryz.zeroValue397,t212:=Tryz.underlying350,a212:=Tryz.isAgg350,z212:=Tryz.sizeOf350,v212:=Tryz.zeroValue350,t213:=Tryz.underlying351,a213:=Tryz.isAgg351,z213:=Tryz.sizeOf351,t232:=Tryz.underlying399,a232:=Tryz.isAgg399,z232:=Tryz.sizeOf399,v232:=Tryz.zeroValue399,t233:=Tryz.underlying400,a233:=Tryz.isAgg400,z233:=Tryz.sizeOf400,v233:=Tryz.zeroValue400,g15:=by kernel_rfl,g16:=by kernel_rfl,g17:=by kernel_rfl,g18:=by kernel_rfl,g19:=by kernel_rfl,t80:=Tryz.underlying228,a80:=Tryz.isAgg228,z80:=Tryz.sizeOf228,v80:=Tryz.zeroValue228,i0:=by kernel_rfl,i2:=by kernel_rfl,i3:=by kernel_rfl,i4:=by kernel_rfl,i5:=by kernel_rfl,i9:=by kernel_rfl,i20:=by kernel_rfl,i21:=by kernel_rfl,i37:=by kernel_rfl,i46:=by kernel_rfl,i51:=by kernel_rfl,i53:=by kernel_rfl,i75:=by kernel_rfl,i76:=by kernel_rfl,i80:=by kernel_rfl,i85:=by kernel_rfl,i127:=by kernel_rfl,i143:=by kernel_rfl,i145:=by kernel_rfl,i167:=by kernel_rfl,i168:=by kernel_rfl,i171:=by kernel_rfl,i173:=by kernel_rfl,i175:=by kernel_rfl,i210:=by kernel_rfl,i212:=by kernel_rfl,i232:=by kernel_rfl,i233:=by kernel_rfl,m15:=by kernel_rfl,m16:=by kernel_rfl,m17:=by kernel_rfl,m18:=by kernel_rfl,m19:=by kernel_rfl,c0:=by kernel_rfl,c2:=by kernel_rfl,c3:=by kernel_rfl,c4:=by kernel_rfl,c5:=by kernel_rfl,c9:=by kernel_rfl,c20:=by kernel_rfl,c21:=by kernel_rfl,c37:=by kernel_rfl,c46:=by kernel_rfl,c51:=by kernel_rfl,c53:=by kernel_rfl,c75:=by kernel_rfl,c76:=by kernel_rfl,c80:=by kernel_rfl,c85:=by kernel_rfl,c127:=by kernel_rfl,c143:=by kernel_rfl,c145:=by kernel_rfl,c167:=by kernel_rfl,c168:=by kernel_rfl,c171:=by kernel_rfl,c173:=by kernel_rfl,c175:=by kernel_rfl,c210:=by kernel_rfl,c212:=by kernel_rfl,c213:=by kernel_rfl,c232:=by kernel_rfl,c233:=by kernel_rfl }
theorem C06 : (Tryz.f280.name == "runtime.NumGoroutine") = false := by decide
theorem C07:Tryz.f280.body.isNone=false:=rfl
theorem A4U:Z8 Tryz.prog 280:=⟨_,Tryz.func280,C06,C07⟩
theorem C40 {w : World} (h : A6W Tryz.prog w) : ∃ v, w.cell? ⟨2, 0, none⟩ = some v /\ (v = .nilIface \/ ∃ te pe, v = .iface te pe) := h.err "strconv.ErrSyntax" (by simp [C1B]) _ (by kernel_rfl)
theorem C41 {w : World} (h : A6W Tryz.prog w) : ∃ v, w.cell? ⟨3, 0, none⟩ = some v /\ (v = .nilIface \/ ∃ te pe, v = .iface te pe) := h.err "strconv.ErrRange" (by simp [C1B]) _ (by kernel_rfl)
theorem B4k{G:Gh}{w:World}{x y:AV}{u v:Value}(h1:RV G w x u)(h2:RV G w y v):RV G w (.tup [x,y]) (.tuple #[u,v]):=.tup _ _ rfl fun i z hz=>by
 match i,hz with
 | 0,hz=>simp at hz; subst hz; exact h1
 | 1,hz=>simp at hz; subst hz; exact h2
 | i+2,hz=>simp at hz
def A4V:AV:=.iface 373 (.cptr [])
theorem B07{G:Gh}{w:World}(a:Addr):RV G w A4V (.iface 373 (.pointer (some a))):=.iface _ _ _ (.cptr [] a (fun _=>undef) (fun j y h=>by simp at h) (fun j y h=>by simp at h) (fun j y h=>by simp at h))
theorem B5m(s:List UInt8)(n:Int)(id:Nat)(h:s.length<=281474976710656)(hn:Lib.atoiAll s = .ok n):A2 Tryz.prog 280 [.str s] [] id (.tup [.int .i64 n,.nili]) []:=by
 refine A5Y A4U fun C G bx w vs hs hv=>?_;obtain⟨v,rfl,hv1⟩:=A1R hv;cases hv1
 refine (Any.strconv_Atoi_ok B1C ⟨⟨s⟩⟩ (by show s.length<=_; omega) n hn w).mono ?_;rintro e w' ⟨h1,hw⟩;refine⟨_,h1,fun _ _=>B4k (.int _ _) .nili,?_⟩;rcases hw with rfl|⟨t,rfl⟩
 ·exact Below.refl _ _
 ·exact Lib.bytesWorld_below _ _ _
theorem B34(s:List UInt8)(id:Nat)(h:s.length<=281474976710656){e:Lib.NumEnd Int}(hn:Lib.atoiAll s=e)(h1:∀n,e≠.ok n)(h2:e≠.range):A2 Tryz.prog 280 [.str s] [] id (.tup [.int .i64 0,A4V]) []:=by
 refine A5Y A4U fun C G bx w vs hs hv=>?_;obtain⟨v,rfl,hv1⟩:=A1R hv;cases hv1
 obtain⟨ev,k1,k2⟩:=C40 hs.tabs;rcases e with n|_|_
 ·exact (h1 n rfl).elim
 rotate_left
 ·exact (h2 rfl).elim
 refine (Any.strconv_Atoi_syntax B1C ⟨⟨s⟩⟩ h hn ev w k1 k2).mono ?_;rintro e w' ⟨N,h1,_,_,h4⟩;exact⟨_,h1,fun _ _=>B4k (.int _ _) (B07 _),h4⟩
theorem B35(s:List UInt8)(id:Nat)(h:s.length<=281474976710656)(hn:Lib.atoiAll s = .range):A2 Tryz.prog 280 [.str s] [] id (.tup [.int .i64 (Lib.atoiSat s),A4V]) []:=by
 refine A5Y A4U fun C G bx w vs hs hv=>?_;obtain⟨v,rfl,hv1⟩:=A1R hv;cases hv1
 obtain⟨ev,k1,k2⟩:=C41 hs.tabs;refine (Any.strconv_Atoi_range B1C ⟨⟨s⟩⟩ h hn ev w k1 k2).mono ?_;rintro e w' ⟨N,h1,_,_,h4⟩;exact⟨_,h1,fun _ _=>B4k (.int _ _) (B07 _),h4⟩
end Go.Am
namespace Go.Am
open Go Go.Proofs Go.RowKit
def dgB(c:UInt8):Bool:=48<=c.toNat&&c.toNat<=57
def x5(l:List UInt8):Nat:=l.foldl (fun a c=>10*a+(c.toNat - 48)) 0
theorem A2E(n:Nat):(UInt8.ofNat n).toNat=n % 256:=by simp
theorem A74(u:Nat):∀c∈Lib.decDigits u,dgB c=true:=by
 induction u using Nat.strongRecOn with
 | _ u ih =>
  rw[Lib.decDigits];split
  ·rename_i h;intro c hc;obtain rfl:=xq.1 hc;simp only[dgB,A2E,yg,decide_eq_true_eq];omega
  ·rename_i h;intro c hc;rcases zo.1 hc with hc|hc
   ·exact ih (u / 10) (by omega) c hc
   ·obtain rfl:=xq.1 hc;simp only[dgB,A2E,yg,decide_eq_true_eq];omega
theorem A8L(u:Nat):x5 (Lib.decDigits u)=u:=by
 induction u using Nat.strongRecOn with
 | _ u ih =>
  rw[Lib.decDigits];split
  ·rename_i h;simp only[x5,wm,List.foldl_nil,A2E];omega
  ·rename_i h;have:=ih (u / 10) (by omega);unfold x5 at this ⊢;rw[List.foldl_append,this];simp only[wm,List.foldl_nil,A2E];omega
theorem C08:∀(l:List UInt8) (acc:Nat),acc<=l.foldl (fun a c=>10*a+(c.toNat - 48)) acc
 | [],acc=>ya _
 | c::r,acc=>ut (by omega) (C08 r (10*acc+(c.toNat - 48)))
theorem C2u:∀(l:List UInt8) (acc:Nat),(∀c∈l,dgB c=true)->l.foldl (fun a c=>10*a+(c.toNat - 48)) acc<1844674407370955162->Lib.parseUint10 acc l = .ok (l.foldl (fun a c=>10*a+(c.toNat - 48)) acc)
 | [],acc,_,_=>rfl
 | c::r,acc,hd,hv=>by
  have hc:48<=c.toNat/\c.toNat<=57:=by simpa [dgB] using hd c (za ..)
  have hm:=C08 r (10*acc+(c.toNat - 48));simp only[wm] at hv ⊢;have e:acc*10+(c.toNat - 48)=10*acc+(c.toNat - 48):=by omega
  simp only[Lib.parseUint10];rw[zj hc,zf (by omega),zf (by omega),e];exact C2u r _ (fun x hx=>hd x (zb _ hx)) hv
theorem B5n(u:Nat):Lib.decDigits u≠[]:=fun hd=>by
 have:=congrArg List.length hd;rw[Lib.decDigits] at this;split at this<;>simp at this
theorem B5o{u:Nat}(hu:u<=999999999):Lib.parseMag (Lib.decDigits u) = .ok u:=by
 have hv:=A8L u;have hd:=A74 u;unfold Lib.parseMag;rw[zf (B5n u)];unfold x5 at hv;rw[C2u _ _ hd (by omega),hv]
theorem B08{n:Int}(h : -999999999<=n/\n<=999999999):Lib.atoiAll (Lib.itoa n) = .ok n:=by
 unfold Lib.itoa;split
 ·rename_i hn;have h1:=B5o (u:=n.natAbs) (by omega);simp only[Lib.atoiAll];rw[zj (.inr (by decide)),h1];simp only;rw[zf (by rintro⟨h,_⟩; exact h (by decide)),zf (by rintro⟨_,h⟩; omega),zj (by decide)];congr 1
  omega
 ·cases hd:Lib.decDigits n.toNat with
  | nil=>exact (B5n _ hd).elim
  | cons c r =>
   have hc:=A74 n.toNat c (by rw[hd]; exact za ..);have hc:48<=c.toNat/\c.toNat<=57:=(by simpa [dgB] using hc);have h1:=B5o (u:=n.toNat) (by omega);rw[hd] at h1;simp only[Lib.atoiAll];rw[zf (by omega),h1];simp only;rw[zf (by omega),zf (by omega),zf (by omega)];congr 1
   omega
theorem V6{u:Nat}(h:u<10):Lib.decDigits u=[UInt8.ofNat (48+u)]:=by rw[Lib.decDigits,dif_pos h]
theorem A75{u:Nat}(h:¬u<10):Lib.decDigits u=Lib.decDigits (u / 10)++Lib.decDigits (u % 10):=by
 rw[Lib.decDigits,dif_neg h,V6 (show u % 10<10 by omega)]
theorem A76{u:Nat}(h:u<=999999999):(Lib.decDigits u).length<=9:=by
 have key:∀(k u:Nat),u<10 ^ (k+1)->(Lib.decDigits u).length<=k+1:=fun k=>by
  induction k with
  | zero=>intro u h; rw[V6 (by simpa using h)]; simp
  | succ k ih =>
   intro u h;by_cases hu:u<10
   ·rw[V6 hu]; simp
   ·rw[A75 hu,V6 (show u % 10<10 by omega),yl];have:=ih (u / 10) (by rw[Nat.pow_succ] at h; omega);simp; omega
 exact key 8 u (by omega)
theorem A8M:∀(m u id:Nat),u<m->u<=999999999->A2 Tryz.prog 147 [.int .i64 u] [] id (.str (Lib.decDigits u)) []
 | 0,u,id,h,_=>by omega
 | m+1,u,id,h,h9=>by
  by_cases hu:u<10
  ·rw[V6 hu];have e1:IntKind.i64.wrap (48+(u:Int))=48+(u:Int):=A5 (by omega);have e2:IntKind.u8.wrap (48+(u:Int))=48+(u:Int):=(by simp[IntKind.wrap,IntKind.signed,IntKind.bits]; omega);have e5:A5S (.int .u8 (48+(u:Int)))=UInt8.ofNat (48+u):=by
    show UInt8.ofNat (48+(u:Int)).toNat=_;congr 1
   have e6:A4e (.int .u8 (48+(u:Int)))=true:=(by simp[A4e]; try omega);refine w147.e.1 fun E hP hR hl hid=>?_;simp[w147];refine A0 (by simp; omega) ?_;simp;refine A0 (by simp) ?_;simp;refine A9 (by simp; omega) ?_;simp[e1,e2];rw[e5];refine⟨e6,?_⟩;exact yP hR
  ·rw[A75 hu];have h1:=fun id=>A8M m (u / 10) id (by omega) (by omega);have h2:=fun id=>A8M m (u % 10) id (by omega) (by omega);have l1:=A76 (u:=u / 10) (by omega);have l2:=A76 (u:=u % 10) (by omega);refine w147.e.1 fun E hP hR hl hid=>?_;simp[w147];refine A0 (by simp; omega) ?_;simp;refine A0 (by simp) ?_;simp;refine A0 (by simp; omega) ?_;have e3:IntKind.i64.wrap ((u:Int) / 10)=((u / 10:Nat):Int):=(by rw[show (u:Int) / 10=((u / 10:Nat):Int) by omega]; exact A5 (by omega));have e4:IntKind.i64.wrap ((u:Int) % 10)=((u % 10:Nat):Int):=(by rw[show (u:Int) % 10=((u % 10:Nat):Int) by omega]; exact A5 (by omega));simp[e3];(refine yC rfl (h1 _) ?_; simp[e4]);(refine yC rfl (h2 _) ?_; simp[e4]);refine⟨by omega,?_⟩;exact yP hR
def B36(neg:Bool)(e:List UInt8):Option Int :=
 if e.length<1\/9<e.length\/(e.head?=some 48/\(1<e.length\/neg=true)) then none else if e.all dgB=true then some (if neg=true then -(x5 e:Int) else (x5 e:Int)) else none
def A0g:List UInt8->Option Int
 | 45::r=>B36 true r
 | d=>B36 false d
theorem B7V(r:List UInt8):A0g (45::r)=B36 true r:=rfl
theorem B7W{d:List UInt8}(h:d.head?≠some 45):A0g d=B36 false d:=by
 unfold A0g;split
 ·exact (h rfl).elim
 ·rfl
theorem B09(l:List UInt8)(c:UInt8):x5 (l++[c])=10*x5 l+(c.toNat - 48):=by simp[x5]
theorem B5p{l:List UInt8}(h:∀c∈l,dgB c=true):∀i:Nat,i<=l.length->x5 (l.take i)<10 ^ i
 | 0,_=>by simp[x5]
 | i+1,hi=>by
  obtain⟨c,hc⟩:∃c,l[i]?=some c:=⟨_,zc (by omega)⟩;have h1:=B5p h i (by omega);have h2:48<=c.toNat/\c.toNat<=57:=by simpa [dgB] using h c (zg hc)
  rw[O2 hc,B09,Nat.pow_succ];omega
theorem B37{l:List UInt8}(h:∀c∈l,dgB c=true):l.all dgB=true:=by simpa using h
theorem C6E{n:Nat}(h:n<=9):10 ^ n<=1000000000:=Nat.pow_le_pow_right (n:=10) (by omega) h
theorem A5D:∀(m u:Nat),u<m->∃c r,Lib.decDigits u=c::r/\dgB c=true/\(c=48->u=0/\r=[])
 | 0,u,h=>by omega
 | m+1,u,h=>by
  by_cases hu:u<10
  ·refine⟨UInt8.ofNat (48+u),[],V6 hu,?_,fun h=>?_⟩
   ·simp only[dgB,A2E,yg,decide_eq_true_eq];omega
   ·have:=congrArg UInt8.toNat h;simp only[A2E] at this;rw[show (48:UInt8).toNat=48 from rfl] at this;exact⟨by omega,rfl⟩
  ·obtain⟨c,r,h1,h2,h3⟩:=A5D m (u / 10) (by omega);refine⟨c,r++Lib.decDigits (u % 10),by rw[A75 hu,h1]; rfl,h2,fun h=>?_⟩;have:=(h3 h).1;omega
theorem C6F{c:UInt8}(h:dgB c=true):48<=c.toNat/\c.toNat<=57:=by simpa [dgB] using h
theorem B5q:∀(m:Nat) (e:List UInt8),e.length<m->e≠[]->(∀c∈e,dgB c=true)->(e.head?=some 48->e.length=1)->Lib.decDigits (x5 e)=e
 | 0,e,h,_,_,_=>by omega
 | m+1,e,h,hne,hd,h0=>by
  rcases List.eq_nil_or_concat e with rfl|⟨f,c,rfl⟩
  ·exact (hne rfl).elim
  have hc:=C6F (hd c (by simp));rw[List.concat_eq_append] at *;rw[B09];have hc2:UInt8.ofNat (48+(c.toNat - 48))=c:=by rw[show 48+(c.toNat - 48)=c.toNat by omega]; simp
  cases f with
  | nil =>
   rw[show x5 []=0 from rfl,V6 (by omega)];simp only[Nat.mul_zero,yy,hc2,xm]
  | cons a f =>
   have ha:a≠48:=fun q=>by
    have:=h0 (by simp[q]);simp at this
   have ih:=B5q m (a::f) (by simp at h ⊢; omega) (by simp) (fun x hx=>hd x (by simp at hx ⊢; rcases hx with hx|hx<;>simp[hx])) (fun q=>by simp at q; exact (ha q).elim);have hpos:1<=x5 (a::f):=by
    obtain⟨c',r',q1,_,q3⟩:=A5D (x5 (a::f)+1) (x5 (a::f)) (wk _);rcases ua (x5 (a::f)) with q|q
    ·exfalso;rw[q] at ih;rw[V6 (by omega)] at ih;simp at ih;exact ha ih.1.symm
    ·exact q
   rw[A75 (by omega),show (10*x5 (a::f)+(c.toNat - 48)) / 10=x5 (a::f) by omega,show (10*x5 (a::f)+(c.toNat - 48)) % 10=c.toNat - 48 by omega,ih,V6 (by omega),hc2]
theorem B4l{n:Int}(h : -999999999<=n/\n<=999999999):A0g (Lib.itoa n)=some n:=by
 unfold Lib.itoa;split
 ·rename_i hn;obtain⟨c,r,h1,h2,h3⟩:=A5D (n.natAbs+1) n.natAbs (wk _);have hl:=A76 (u:=n.natAbs) (by omega);have hv:=A8L n.natAbs;have hd:=A74 n.natAbs;rw[h1] at hl hv hd ⊢;rw[B7V];unfold B36;rw[zf (by
   rintro (q|q|⟨q,_⟩)
   ·simp at q
   ·omega
   ·simp at q; have:=(h3 q).1; omega),zj (B37 hd),zj rfl,hv]
  congr 1
  omega
 ·obtain⟨c,r,h1,h2,h3⟩:=A5D (n.toNat+1) n.toNat (wk _);have hl:=A76 (u:=n.toNat) (by omega);have hv:=A8L n.toNat;have hd:=A74 n.toNat;rw[h1] at hl hv hd ⊢;rw[B7W (by intro q; simp at q; rw[q] at h2; revert h2; decide)];unfold B36;rw[zf (by
   rintro (q|q|⟨q,q2|q2⟩)
   ·simp at q
   ·omega
   ·simp at q; have:=(h3 q).2; rw[this] at q2; simp at q2
   ·cases q2),zj (B37 hd),zf (by simp),hv]
  congr 1
  omega
theorem B0A{neg:Bool}{e:List UInt8}{n:Int}(h:B36 neg e=some n):n=(if neg=true then -(x5 e:Int) else (x5 e:Int))/\Lib.decDigits (x5 e)=e/\x5 e<=999999999/\(neg=true->1<=x5 e):=by
 unfold B36 at h;split at h
 ·cases h
 rename_i h1;split at h
 rotate_left
 ·cases h
 rename_i h2;injection h with h
 have hd:∀c∈e,dgB c=true:=by simpa using h2
 have hne:e≠[]:=fun q=>h1 (.inl (by simp[q]));have hl9:e.length<=9:=by
  rcases yh 9 e.length with q|q
  ·exact (h1 (.inr (.inl q))).elim
  ·exact q
 have hl1:1<=e.length:=by cases e; exact (hne rfl).elim; simp
 have h48:e.head?=some 48->e.length=1:=fun q=>by
  rcases yh 1 e.length with q2|q2
  ·exact (h1 (.inr (.inr ⟨q,.inl q2⟩))).elim
  ·omega
 have hv:=B5q (e.length+1) e (wk _) hne hd h48;have hlt:=B5p hd e.length (ya _);rw[zq (ya _)] at hlt;have h10:=C6E hl9;refine⟨h.symm,hv,by omega,fun q=>?_⟩;rcases ua (x5 e) with q2|q2
 ·exfalso;rw[q2,V6 (by omega)] at hv;exact h1 (.inr (.inr ⟨by rw[←hv]; rfl,.inr q⟩))
 ·exact q2
theorem A8N{d:List UInt8}{n:Int}(h:A0g d=some n):Lib.itoa n=d/\-999999999<=n/\n<=999999999:=by
 unfold A0g at h;split at h
 ·rename_i r;obtain⟨h1,h2,h3,h4⟩:=B0A h;have h4:=h4 rfl;rw[zj rfl] at h1;refine⟨?_,by omega,by omega⟩;unfold Lib.itoa;rw[zj (by omega),show n.natAbs=x5 r by omega,h2]
 ·obtain⟨h1,h2,h3,_⟩:=B0A h;rw[zf (by simp)] at h1;refine⟨?_,by omega,by omega⟩;unfold Lib.itoa;rw[zf (by omega),show n.toNat=x5 d by omega,h2]
structure Tk where
 kind:Int
 text:List UInt8
 n:Int
def blC(c:UInt8):Bool:=c==9||c==10||c==13||c==32||c==44
def blk:Bool->List UInt8->List UInt8
 | _,[]=>[]
 | false,c::r=>if blC c=true then blk false r else if c=35 then blk true r else c::r
 | true,c::r=>if c=10 then blk false r else blk true r
def sgC(c:UInt8):Bool:=[123,125,40,41,58,91,93].contains c
def pTq:Bool->List UInt8->List UInt8->Option (List UInt8×List UInt8)
 | _,_,[]=>none
 | false,acc,c::r=>if c=10 then none else if c=34 then some (acc,r) else if c=92 then pTq true acc r else pTq false (acc++[c]) r
 | true,acc,c::r=>if c=34\/c=92 then pTq false (acc++[c]) r else if c=110 then pTq false (acc++[10]) r else none
def A0x(c:UInt8)(r:List UInt8):List UInt8:=c::r.takeWhile c8
def A0Y(c:UInt8)(r:List UInt8):Except Int (Tk×List UInt8) :=
 if A6f c=true then (if L7 ((c::r).takeWhile anC)=0 then .ok (⟨1,(c::r).takeWhile anC,0⟩,(c::r).dropWhile anC) else .error (L7 ((c::r).takeWhile anC)))
 else if c8 c=true\/c=45 then (match A0g (A0x c r) with
  | none=>.error 1
  | some n=>.ok (⟨2,[],n⟩,r.dropWhile c8))
 else if c=34 then (match pTq false [] r with
  | none=>.error 1
  | some p=>if 40<p.1.length then .error 2 else .ok (⟨3,p.1,0⟩,p.2))
 else if sgC c=true then .ok (⟨4,[c],0⟩,r)
 else .error 1
def p8:Nat->List Tk->List UInt8->Except Int (List Tk)
 | 0,_,_=>.error 1
 | n+1,acc,s=>match blk false s with
  | []=>.ok acc
  | c::r=>match A0Y c r with
   | .error e=>.error e
   | .ok p=>if 300<acc.length+1 then .error 2 else p8 n (acc++[p.1]) p.2
def A1s(s:List UInt8):Except Int (List Tk):=p8 (s.length+1) [] s
def A5E(s:List UInt8):Except Int (List Tk):=if 2000<s.length then .error 2 else A1s s
theorem A2l:∀(b:Bool) (s:List UInt8),(blk b s).length<=s.length
 | false,[]=>ya _
 | true,[]=>ya _
 | false,c::r=>by
  have h1:=A2l false r;have h2:=A2l true r;unfold blk;split
  ·simp; omega
  ·split
   ·simp; omega
   ·exact ya _
 | true,c::r=>by
  have h1:=A2l false r;have h2:=A2l true r;unfold blk;split<;>(simp; omega)
theorem A3x:∀(b:Bool) (s:List UInt8),blk b s <:+ s
 | false,[]=>tu _
 | true,[]=>tu _
 | false,c::r=>by
  have h1:=A3x false r;have h2:=A3x true r;unfold blk;split
  ·exact h1.trans (wq c r)
  ·split
   ·exact h2.trans (wq c r)
   ·exact tu _
 | true,c::r=>by
  have h1:=A3x false r;have h2:=A3x true r;unfold blk;split
  ·exact h1.trans (wq c r)
  ·exact h2.trans (wq c r)
theorem A2F:∀(b:Bool) (s:List UInt8) (c:UInt8) (r:List UInt8),blk b s=c::r->blC c=false/\c≠35
 | false,[],c,r,h=>by cases h
 | true,[],c,r,h=>by cases h
 | false,d::t,c,r,h=>by
  unfold blk at h;split at h
  ·exact A2F false t c r h
  ·rename_i h1;split at h
   ·exact A2F true t c r h
   ·rename_i h2;injection h with h3 h4
    subst h3;exact⟨by simpa using h1,h2⟩
 | true,d::t,c,r,h=>by
  unfold blk at h;split at h
  ·exact A2F false t c r h
  ·exact A2F true t c r h
theorem B5r{c:UInt8}{r:List UInt8}(h1:blC c=false)(h2:c≠35):blk false (c::r)=c::r:=by
 unfold blk;rw[zf (by simp[h1]),zf h2]
theorem A1f(b:Bool)(s:List UInt8):blk false (blk b s)=blk b s:=by
 cases h:blk b s with
 | nil=>rfl
 | cons c r=>exact B5r (A2F b s c r h).1 (A2F b s c r h).2
theorem A8O:∀(b:Bool) (acc s t u:List UInt8),pTq b acc s=some (t,u)->u.length<s.length/\u <:+ s
 | false,acc,[],t,u,h=>by cases h
 | true,acc,[],t,u,h=>by cases h
 | false,acc,c::r,t,u,h=>by
  unfold pTq at h;split at h
  ·cases h
  split at h
  ·simp only[zd,zi] at h;rw[←h.2]; exact⟨by simp,wq c r⟩
  split at h
  ·have:=A8O true acc r t u h;exact⟨by simp; omega,this.2.trans (wq c r)⟩
  ·have:=A8O false _ r t u h;exact⟨by simp; omega,this.2.trans (wq c r)⟩
 | true,acc,c::r,t,u,h=>by
  unfold pTq at h;split at h
  ·have:=A8O false _ r t u h;exact⟨by simp; omega,this.2.trans (wq c r)⟩
  split at h
  ·have:=A8O false _ r t u h;exact⟨by simp; omega,this.2.trans (wq c r)⟩
  ·cases h
theorem C2L{c:UInt8}(h:A6f c=true):anC c=true:=by unfold anC; rw[h]; rfl
theorem A5F{c:UInt8}{r u:List UInt8}{t:Tk}(h:A0Y c r = .ok (t,u)):u.length<=r.length/\u <:+ r:=by
 unfold A0Y at h;split at h
 ·rename_i h1;split at h
  ·injection h with h
   rw[zi] at h;rw[←h.2,wc (C2L h1)];exact⟨(ue _).length_le,ue _⟩
  ·cases h
 split at h
 ·split at h
  ·cases h
  ·injection h with h
   rw[zi] at h;rw[←h.2];exact⟨(ue _).length_le,ue _⟩
 split at h
 ·split at h
  ·cases h
  ·rename_i p hp;split at h
   ·cases h
   ·injection h with h
    rw[zi] at h;obtain⟨p1,p2⟩:=p;have:=A8O _ _ _ _ _ hp;rw[←h.2]; exact⟨by simp only; omega,this.2⟩
 split at h
 ·injection h with h
  rw[zi] at h;rw[←h.2]; exact⟨ya _,tu _⟩
 ·cases h
inductive RdT:List UInt8->List Tk->Prop
 | nil {s:List UInt8}:blk false s=[]->RdT s []
 | cons {s r u:List UInt8} {c:UInt8} {t:Tk} {l:List Tk}:blk false s=c::r->A0Y c r = .ok (t,u)->RdT u l->RdT s (t::l)
theorem B5s:∀(n:Nat) (s:List UInt8) (acc l:List Tk),p8 n acc s = .ok l->acc.length<=300->∃l',l=acc++l'/\RdT s l'/\l.length<=300
 | 0,s,acc,l,h,_=>by cases h
 | n+1,s,acc,l,h,ha=>by
  unfold p8 at h;split at h
  ·rename_i hb;injection h with h
   exact⟨[],by rw[h]; simp,.nil hb,by rw[←h]; exact ha⟩
  ·rename_i c r hb;split at h
   ·cases h
   ·rename_i p hp;split at h
    ·cases h
    ·obtain⟨l',h1,h2,h3⟩:=B5s n p.2 (acc++[p.1]) l h (by simp; omega);exact⟨p.1::l',by rw[h1]; simp,.cons hb hp h2,h3⟩
theorem C2M{s:List UInt8}{l:List Tk}(h:RdT s l):∀(n:Nat) (acc:List Tk),s.length<n->acc.length+l.length<=300->p8 n acc s = .ok (acc++l):=by
 induction h with
 | nil hb =>
  intro n acc hn hl;obtain⟨n,rfl⟩:=wj (show n≠0 by omega);simp only[xx,p8];rw[hb]; simp
 | @cons s r u c t l hb hp _ ih =>
  intro n acc hn hl;obtain⟨n,rfl⟩:=wj (show n≠0 by omega);have h1:=A2l false s;have h2:=A5F hp;rw[hb] at h1;simp only[yd] at h1 hl;simp only[xx,p8];rw[hb];simp only;rw[hp];simp only;rw[zf (by omega),ih n (acc++[t]) (by omega) (by simp; omega)];simp
theorem B1D(s:List UInt8)(l:List Tk):A5E s = .ok l↔s.length<=2000/\RdT s l/\l.length<=300:=by
 unfold A5E A1s;constructor
 ·intro h;split at h
  ·cases h
  ·obtain⟨l',h1,h2,h3⟩:=B5s _ _ _ _ h (by simp);rw[xm] at h1;subst h1;exact⟨by omega,h2,h3⟩
 ·rintro⟨h1,h2,h3⟩;rw[zf (by omega),C2M h2 _ _ (by omega) (by simpa using h3)];simp
theorem A5z:∀(n m:Nat) (acc:List Tk) (s t:List UInt8),blk false s=blk false t->(blk false s).length<n->(blk false s).length<m->p8 n acc s=p8 m acc t
 | 0,_,_,_,_,_,h,_=>by omega
 | _,0,_,_,_,_,_,h=>by omega
 | n+1,m+1,acc,s,t,he,hn,hm=>by
  unfold p8;rw[←he];cases hb:blk false s with
  | nil=>rfl
  | cons c r =>
   simp only;rw[hb] at hn hm;simp only[yd] at hn hm;cases hp:A0Y c r with
   | error e=>rfl
   | ok p =>
    simp only;obtain⟨k,u⟩:=p;have h1:=A5F hp;have h2:=A2l false u;rw[A5z n m (acc++[k]) u u rfl (by omega) (by omega)]
end Go.Am
